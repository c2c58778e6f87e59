/- Bytes in memory; slices.Index and slices.Contains on them; the reader's word; sign. · The reader's zone, told, days; Web. · Which day a time is of; padded; Print. · Report: the writer of a page: put; what a line is. · Report: the line of an entry. · Report: Line, Page of the program. -/
import Derived.Test.YtamdlihgecpbkaaGreatDoorGrpAA
import Derived.Laws.IdiomStrings
import Derived.Test.YtamdlihgecpbkaaGreatDoorShelf
import Derived.Test.YtamdlihgecpbkaaGreatDoorGrpS
import Derived.Test.YtamdlihgecpbkaaGreatDoorFdF
import Derived.Test.YtamdlihgecpbkaaGreatDoorTokWr
import Derived.Test.YtamdlihgecpbkaaGreatDoorGrpP
import Derived.Test.YtamdlihgecpbkaaGreatDoorGrpQ
set_option maxRecDepth 100000
set_option maxHeartbeats 8000000
namespace Go.Proofs.YtamdlihgecpbkaaGreatDoor
open Go.RowKit
def Has (l : List UInt8) (v : Int) : Bool := l.any fun c => v == (c.toNat : Int)
structure dtMo (b : Nat) (w w' : World) : Prop where
 os : w'.os = w.os
 tape : w'.tape = w.tape
 output : w'.output = w.output
 size : w.heap.size ≤ w'.heap.size
 block : ∀ k, k < w.heap.size → k ≠ b → w'.heap[k]? = w.heap[k]?
theorem dtMo.refl (b : Nat) (w : World) : dtMo b w w := ⟨rfl, rfl, rfl, Nat.le_refl _, fun _ _ _ => rfl⟩
theorem dtMo.trans {b : Nat} {x y z : World} (h : dtMo b x y) (k : dtMo b y z) : dtMo b x z :=
 ⟨k.os.trans h.os, k.tape.trans h.tape, k.output.trans h.output, Nat.le_trans h.size k.size, fun i hi hb => (k.block i (Nat.lt_of_lt_of_le hi h.size) hb).trans (h.block i hi hb)⟩
theorem dtMo.of_bl {b : Nat} {w w' : World} (h : Bl w w') : dtMo b w w' := ⟨Below.os h, Below.tape h, Below.output h, Below.size h, fun k hk _ => Below.block h k hk⟩
theorem dtMo.set {b : Nat} {x w : World} (h : dtMo b x w) (o : Nat) (v : Value) : dtMo b x (w.setCell ⟨b, o, none⟩ v) :=
 h.trans ⟨rfl, rfl, rfl, by simp [World.setCell], fun k _ hb => Below.heap_setCell _ _ _ _ hb⟩
theorem find_year (t : Int) (h0 : 0 ≤ t) (k : Nat) (h : t < D70 (1970 + k)) : ∃ y : Nat, 1970 ≤ y ∧ y < 1970 + k ∧ D70 y ≤ t ∧ t < D70 (y + 1) := by
 induction k with
 | zero => rw [show 1970 + 0 = 1970 from rfl, D70_0] at h; omega
 | succ k ih =>
   by_cases hk : t < D70 (1970 + k)
   · obtain ⟨y, a, b, c, d⟩ := ih hk; exact ⟨y, a, by omega, c, d⟩
   · exact ⟨1970 + k, by omega, by omega, by omega, h⟩
theorem find_month (y t : Int) (h0 : 0 ≤ t) (k : Nat) (h : t < MB y (1 + k)) : ∃ m : Nat, 1 ≤ m ∧ m < 1 + k ∧ MB y m ≤ t ∧ t < MB y (m + 1) := by
 induction k with
 | zero => simp [MB] at h; omega
 | succ k ih =>
   by_cases hk : t < MB y (1 + k)
   · obtain ⟨m, a, b, c, d⟩ := ih hk; exact ⟨m, a, by omega, c, d⟩
   · exact ⟨1 + k, by omega, by omega, by omega, h⟩
theorem D70_2100 : D70 2100 = 47482 := by
 have h1 := ahead_law 2099; have h2 := ahead_law 1969; unfold D70; rw [show DB 2100 = DB (2099 + 1) from rfl, show DB 1970 = DB (1969 + 1) from rfl, ← h1, ← h2]; decide
structure IsDate (y m : Nat) (d n at' : Int) : Prop where
 y0 : 1970 ≤ y
 y1 : y ≤ 2099
 m0 : 1 ≤ m
 m1 : m ≤ 12
 d0 : 0 ≤ d
 d1 : d < dtML y m
 n0 : 0 ≤ n
 n1 : n < 86400
 eq : at' = 86400 * (D70 y + MB y m + d) + n
theorem exists_date (at' : Int) (h0 : 0 ≤ at') (h1 : at' ≤ 4102444799) : ∃ (y m : Nat) (d n : Int), IsDate y m d n at' := by
 have e := D70_2100; obtain ⟨y, a, b, c, d⟩ := find_year (at' / 86400) (by omega) 130 (by rw [show 1970 + 130 = 2100 from rfl, e]; omega); have hY : D70 (y + 1) = D70 y + YL y := D70_succ y; have hM := MB_13 y; obtain ⟨m, a', b', c', d'⟩ := find_month y (at' / 86400 - D70 y) (by omega) 12 (by rw [show 1 + 12 = 13 from rfl, hM]; omega); have hm := MB_succ y m a'; exact ⟨y, m, at' / 86400 - D70 y - MB y m, at' % 86400, by omega, by omega, a', by omega, by omega, by omega, by omega, by omega, by omega⟩
theorem Dgs_zero (k : Nat) : Dgs 0 k = List.replicate k 48 := by
 induction k with
 | zero => rfl
 | succ k ih => rw [Dgs, Int.zero_ediv, ih, List.replicate_succ']; rfl
theorem pad_law (k : Nat) (n : Nat) (h : n < 10 ^ (k + 1)) : List.replicate (k + 1 - (Lib.decDigits n).length) 48 ++ Lib.decDigits n = Dgs n (k + 1) ∧ (Lib.decDigits n).length ≤ k + 1 := by
 induction k generalizing n with
 | zero =>
   rw [Lib.decDigits, dif_pos (by simpa using h)]; have : (48 + (n : Int) % 10).toNat = 48 + n := by simp at h; omega
   simp [Dgs, this]
 | succ k ih =>
   have h10 : n / 10 < 10 ^ (k + 1) := by rw [Nat.pow_succ] at h; omega
   obtain ⟨i1, i2⟩ := ih (n / 10) h10; have hc : ((n : Int) / 10) = ((n / 10 : Nat) : Int) := by omega
   have hm : (48 + (n : Int) % 10).toNat = 48 + n % 10 := by omega
   rw [Lib.decDigits]; by_cases hn : n < 10
   · rw [dif_pos hn]; have h0 : n / 10 = 0 := by omega
     have hm2 : n % 10 = n := by omega
     rw [Dgs, hc, h0, hm, hm2]; have hz : Dgs (((0 : Nat) : Int)) (k + 1) = List.replicate (k + 1) 48 := Dgs_zero (k + 1); rw [hz]; simp
   · rw [dif_neg hn, Dgs, hc, hm, ← i1]; rw [List.length_append, List.length_singleton, show k + 1 + 1 - ((Lib.decDigits (n / 10)).length + 1) = k + 1 - (Lib.decDigits (n / 10)).length by omega, List.append_assoc]; exact ⟨rfl, by omega⟩
def TI (w : World) : Prop := Lib.TabIs Tryz.prog w "internal/strconv.uint64pow10" .u64 Lib.pow10Tab
theorem TI.of_bl {w w' : World} (h : TI w) (hb : Bl w w') : TI w' := by
 have hg : Tryz.prog.globalNamed "internal/strconv.uint64pow10" = some 3 := by kernel_rfl
 unfold TI Lib.TabIs at *; refine var?_below hb hg ?_ h; unfold World.var? at h; rw [hg, Option.bind_some] at h; cases hx : w.heap[3]? with
 | none => rw [hx] at h; cases h
 | some o => exact (Array.getElem?_eq_some_iff.1 hx).1
theorem dtbl_grow (w : World) (q : Nat) (os : Array Obj) : Bl w (Go.Sort.grow (w.drewN q) os) :=
 ⟨rfl, rfl, rfl, by simp [Go.Sort.grow], fun i hi => by
  show ((w.drewN q).heap ++ os)[i]? = _; rw [Array.getElem?_append_left (by show i < w.heap.size; omega)]; rfl⟩
theorem itoa_c (n : Nat) (h : n ≤ 9223372036854775807) (w : World) (hT : TI w) :
 Calls Tryz.prog 145 #[.int .i64 n] w fun e w' => e = .returned (.string ⟨(Lib.decDigits n).toArray⟩) ∧ Bl w w' :=
 (Tryz.strconv_Itoa n (by omega) (by omega) w hT).mono fun e w' ⟨he, k, os, hw⟩ => ⟨by rw [he, Lib.itoa_nonneg], by subst hw; exact dtbl_grow w k os⟩
def dtstrLen : Value → Nat | .string s => s.size | _ => 0
theorem padded_c (k : Nat) (n : Nat) (hk : k + 1 ≤ 4) (h : n < 10 ^ (k + 1)) (w : World) (hT : TI w) :
 Calls Tryz.prog 112 #[.int .i64 n, .int .i64 ((k + 1 : Nat) : Int)] w fun e w' => e = .returned (.string ⟨(Dgs n (k + 1)).toArray⟩) ∧ Bl w w' := by
 obtain ⟨q1, q2⟩ := pad_law k n h; have Q1 := Lib.hid q1; clear q1; have h10 : n ≤ 10000 := by
  have : 10 ^ (k + 1) ≤ 10 ^ 4 := Nat.pow_le_pow_right (by omega) hk; omega
 clear h; have q3 : (Lib.decDigits n).length ≤ 4 := by omega
 go_enter Tryz.func112, Tryz.ntmps112; go_wp2_with (go_at_call 145; refine (itoa_c _ (by omega) _ (by assumption)).mono ?_; rintro e w' ⟨rfl, hb⟩); go_loop [5] (fun t => ∃ j : Nat, (Lib.decDigits n).length + j ≤ k + 1 ∧ t = .string ⟨(List.replicate j 48 ++ Lib.decDigits n).toArray⟩) (fun t => k + 1 - dtstrLen t); case atStart => exact ⟨0, by omega, rfl⟩
 case round =>
  obtain ⟨j, hj, rfl⟩ := hrel; by_cases hlt : (Lib.decDigits n).length + j < k + 1
  · go_wp2; go_round; case rel => exact ⟨j + 1, by omega, rfl⟩
    case measure => simp [dtstrLen, ByteArray.size]; omega
  · go_wp2; go_ret; refine ⟨?_, by assumption⟩; rw [← Q1.out, show k + 1 - (Lib.decDigits n).length = j by omega]; rfl
theorem pad2_c (n : Int) (h0 : 0 ≤ n) (h : n ≤ 99) (w : World) (hT : TI w) :
 Calls Tryz.prog 112 #[.int .i64 n, .int .i64 2] w fun e w' => e = .returned (.string ⟨(Dgs n 2).toArray⟩) ∧ Bl w w' := by
 obtain ⟨m, rfl⟩ := Int.eq_ofNat_of_zero_le h0; exact padded_c 1 m (by omega) (by omega) w hT
theorem pad4_c (n : Int) (h0 : 0 ≤ n) (h : n ≤ 9999) (w : World) (hT : TI w) :
 Calls Tryz.prog 112 #[.int .i64 n, .int .i64 4] w fun e w' => e = .returned (.string ⟨(Dgs n 4).toArray⟩) ∧ Bl w w' := by
 obtain ⟨m, rfl⟩ := Int.eq_ofNat_of_zero_le h0; exact padded_c 3 m (by omega) (by omega) w hT
theorem DB_succ (k : Nat) : DB (k + 1) = DB k + YL k := rfl
theorem print_c (y m : Nat) (d n at' : Int) (hD : IsDate y m d n at') (w : World) (hT : TI w) :
 Calls Tryz.prog 74 #[.int .i64 at'] w fun e w' => e = .returned (.tuple #[.string ⟨(DateG y m (d + 1) n).toArray⟩, .int .i64 0]) ∧ Bl w w' := by
 obtain ⟨hy, hy1, hm, hm1, hd, hd1, hn, hn1, hat⟩ := hD; have e1 := D70_bd y (by omega); have e2 := MB_bd y m; have e3 := ML_bd y m; have e4 := Lib.hid (MB_YL y m hm hm1); have e6 := MB_YL y m hm hm1; have e7 := YL_bd y; have e5 : 0 ≤ D70 y ∧ D70 y + YL y ≤ 47482 := by
  refine ⟨?_, ?_⟩
  · by_cases h : y = 1970
    · subst h; rw [D70_0]; omega
    · have := D70_mono 1970 y (by omega); rw [D70_0] at this; have := YL_bd (1970 : Nat); omega
  · have := D70_mono y 2100 (by omega); rw [D70_2100] at this; exact this
 have b0 : 0 ≤ at' := by omega
 have b1 : at' ≤ 4102444799 := by omega
 have HQ := Lib.hid (show at' / 86400 = D70 y - D70 1970 + MB y m + d by rw [D70_0]; omega); have HR := Lib.hid (show at' % 86400 = n by omega); clear hat; go_enter Tryz.func74, Tryz.ntmps74; go_wp2; go_loop [4, 5] (fun i t => ∃ k : Nat, 1970 ≤ k ∧ k ≤ y ∧ t = .int .i64 (D70 y - D70 k + MB y m + d) ∧ i = .int .i64 k) (fun i _ => y - (intOf i).toNat); case atStart => exact ⟨1970, by omega, by omega, by rw [HQ.out], rfl⟩
 case round =>
  obtain ⟨k, hk, hk2, rfl, rfl⟩ := hrel; have f1 := D70_bd k (by omega); have f2 := YL_bd k; have f4 := DB_bd k; have f5 := DB_bd (k + 1); have f6 : DB (k + 1) - DB k = YL k := by rw [DB_succ]; omega
  have ac := ahead_c (k + 1) (by omega) w; rw [show ((k + 1 : Nat) : Int) = (k : Int) + 1 from rfl] at ac; have AC := Lib.hid ac; clear ac; by_cases hlt : k < y
  · have f3 := D70_mono k y hlt; have HS := Lib.hid (D70_succ k); go_wp2_with (go_at_call 110; (first | (with_reducible refine (ahead_c k (by omega) _).mono ?_) | (with_reducible refine AC.out.mono ?_)); rintro e w' ⟨rfl, rfl⟩); go_round; case rel => exact ⟨k + 1, by omega, by omega, by rw [HS.out]; go_num, by go_num⟩
    case measure => simp [intOf]; omega
  · obtain rfl : k = y := by omega
    have f3 : MB k m + d < YL k := by have := e4.out; omega
    go_wp2_with (go_at_call 110; (first | (with_reducible refine (ahead_c k (by omega) _).mono ?_) | (with_reducible refine AC.out.mono ?_)); rintro e w' ⟨rfl, rfl⟩); go_loopw [5, 6] (fun t i wr => ∃ q : Nat, 1 ≤ q ∧ q ≤ m ∧ t = .int .i64 (MB k m - MB k q + d) ∧ i = .int .i64 q ∧ Bl w wr) (fun _ i _ => m - (intOf i).toNat); case atStart => exact ⟨1, by omega, by omega, by rw [show MB k 1 = 0 from rfl]; go_num, rfl, Bl.refl _⟩
    case round =>
     obtain ⟨q, hq, hq2, rfl, rfl, hw⟩ := hrel; have g1 := MB_bd k q; have g2 := ML_bd k q; have hT2 := hT.of_bl hw; by_cases hlt2 : q < m
     · have f4 := MB_mono k q m hq hlt2; have HS := Lib.hid (MB_succ k q hq); go_wp2_with (go_at_call 111; refine (dtlong_c _ _ (by omega) (by omega) (by omega) (by omega) _).mono ?_; rintro e w' ⟨rfl, hb⟩); go_roundw; case rel => exact ⟨q + 1, by omega, by omega, by rw [HS.out]; go_num, by go_num, by repeat (first | exact Bl.refl _ | assumption | refine Bl.trans ?_ (by assumption))⟩
       case measure => simp [intOf]; omega
     · obtain rfl : q = m := by omega
       have HL := Dgs_len; go_wp2_with (first | (go_at_call 111; refine (dtlong_c _ _ (by omega) (by omega) (by omega) (by omega) _).mono ?_; rintro e w' ⟨rfl, hb⟩; have ht := hT2.of_bl hb) | (go_at_call 112; (with_reducible (first | refine (pad2_c _ (by omega) (by omega) _ (by assumption)).mono ?_ | refine (pad4_c _ (by omega) (by omega) _ (by assumption)).mono ?_)); rintro e w' ⟨rfl, hb⟩; have ht := TI.of_bl (by assumption) hb)); go_ret2; refine ⟨?_, by repeat (first | exact Bl.refl _ | assumption | refine Bl.trans ?_ (by assumption))⟩; have hr := HR.out; simp [DateG, hr, show at' % 60 = n % 60 by omega, show n / 60 % 60 = n % 3600 / 60 by omega]; try rfl
theorem wrt_holds : HoldsB 64 := ⟨by kernel_rfl, by decide⟩
def DT (a : Int) (t : List UInt8) : Prop := ∃ (y m : Nat) (d n : Int), IsDate y m d n a ∧ t = DateG y m (d + 1) n
noncomputable def datP (a : Int) : List UInt8 := Classical.epsilon (DT a)
theorem datP_spec (a : Int) (h0 : 0 ≤ a) (h1 : a ≤ 4102444799) : DT a (datP a) := by
 obtain ⟨y, m, d, n, h⟩ := exists_date a h0 h1; exact Classical.epsilon_spec ⟨DateG y m (d + 1) n, y, m, d, n, h, rfl⟩
theorem DT_len {a : Int} {t : List UInt8} (h : DT a t) : t.length = 20 := by
 obtain ⟨y, m, d, n, -, rfl⟩ := h; simp [DateG, Dgs_len]
theorem dprint_c (a : Int) (t : List UInt8) (h : DT a t) (w : World) (hT : TI w) :
 Calls Tryz.prog 74 #[.int .i64 a] w fun e w' => e = .returned (.tuple #[.string ⟨t.toArray⟩, .int .i64 0]) ∧ Bl w w' := by
 obtain ⟨y, m, d, n, hD, rfl⟩ := h; exact print_c y m d n a hD w hT
theorem ddate_c (a : Int) (t : List UInt8) (h : DT a t) (w : World) :
 Calls Tryz.prog 46 #[.int .i64 a] w fun e w' => e = .returned (.string ⟨t.toArray⟩) ∧ Bl w w' := by
 obtain ⟨y, m, d, n, ⟨hy, hy1, hm, hm1, hd, hd1, hn, hn1, hat⟩, rfl⟩ := h; exact dateOf_c y m d n a (by omega) (by omega) hm hm1 hd hd1 hn hn1 hat w
def cLi : List UInt8 := [60, 108, 105, 62]
def cA1 : List UInt8 := [60, 97, 32, 104, 114, 101, 102, 61, 34]
def cA2 : List UInt8 := [34, 62]
def cA3 : List UInt8 := [60, 47, 97, 62]
def cP : List UInt8 := [60, 112, 62]
def cE : List UInt8 := [60, 47, 112, 62, 60, 47, 108, 105, 62]
def lkT (x : Ent) : List UInt8 := if eL x = [] then PutL (eT x) else cA1 ++ PutL (eL x) ++ cA2 ++ PutL (eT x) ++ cA3
def dtT (x : Ent) (t : List UInt8) : List UInt8 := if eA x = 0 then [] else 32 :: t
def lineT (x : Ent) (t : List UInt8) : List UInt8 := cLi ++ lkT x ++ dtT x t ++ (cP ++ PutL (wdU (eH x)) ++ cE)
noncomputable def lineP (x : Ent) : List UInt8 := lineT x (datP (eA x))
theorem flat_take (ts : List (List UInt8)) (k : Nat) (h : k < ts.length) : (ts.take (k + 1)).flatten = (ts.take k).flatten ++ ts[k] := by
 rw [take_snoc ts k h, List.flatten_append]; show _ ++ (ts[k] ++ []) = _; rw [List.append_nil]
theorem flat_le (ts : List (List UInt8)) (k : Nat) (h : k < ts.length) : (ts.take k).flatten.length + ts[k].length ≤ ts.flatten.length := by
 have : ts.flatten = (ts.take (k + 1)).flatten ++ (ts.drop (k + 1)).flatten := by rw [← List.flatten_append, List.take_append_drop]
 rw [this, flat_take ts k h]; simp only [List.length_append]; omega
theorem strA_at (ts : List Nm) (k : Nat) (h : k < ts.length) {w : World} {q : Nat} (hq : w.heap[q]? = some (.cells (strA ts) 9 (0, 0))) : w.cell? ⟨q, k, none⟩ = some (.string ⟨ts[k].toArray⟩) := by
 rw [Lib.cell_of_heap hq]; simp [strA, h]
theorem wput_c (B b q : Nat) (ts : List Nm) (l : List UInt8) (w : World) (h : BuX 64 B b l w) (hq : w.heap[q]? = some (.cells (strA ts) 9 (0, 0))) (hqb : q ≠ b) (hlen : l.length + ts.flatten.length ≤ 1099511627776) (hts : ts.length ≤ 1000000) (hBw : B ≤ w.heap.size) :
 Calls Tryz.prog 45 #[.pointer (some ⟨b, 0, none⟩), .slice (some ⟨q, 0, none⟩) ts.length ts.length] w fun e w' => e = .returned (.tuple #[]) ∧ BuX 64 B b (l ++ ts.flatten) w' ∧ Fr B b w w' := by
 have HQ := Lib.hid hq; have HB := Lib.hid h; clear hq h; go_enter Tryz.func45, Tryz.ntmps45; go_wp2; go_loopw [8] (fun i wr => ∃ k : Nat, k ≤ ts.length ∧ i = .int .i64 k ∧ BuX 64 B b (l ++ (ts.take k).flatten) wr ∧ Fr B b w wr) (fun i _ => ts.length - (intOf i).toNat); case atStart => exact ⟨0, Nat.zero_le _, rfl, by rw [List.take_zero]; simpa using HB.out, Fr.refl _ _ _⟩
 case round =>
  obtain ⟨k, hk, rfl, hB, hF⟩ := hrel; by_cases hlt : k < ts.length
  · have hq9 := hF.row HQ.out (by decide) hqb; have hql : q < wr.heap.size := (Array.getElem?_eq_some_iff.1 hq9).1; have y := strA_at ts k hlt hq9; have hfl := flat_le ts k hlt; have hbs := hF.size; have HS := Lib.hid (show l ++ (ts.take (k + 1)).flatten = l ++ (ts.take k).flatten ++ ts[k] by rw [flat_take ts k hlt, List.append_assoc]); have WC := Lib.hid (writeT_c 64 wrt_holds B b (l ++ (ts.take k).flatten) ts[k] wr hB (by simp only [List.length_append]; omega) (by omega)); clear hq9 hB hfl; go_wp2_with (go_at_call 75; (with_reducible refine WC.out.mono ?_); rintro e w7 ⟨rfl, hB7, hF7⟩); go_roundw; case rel => exact ⟨k + 1, by omega, by go_num, by rw [HS.out]; exact hB7, hF.trans hF7⟩
    case measure => simp [intOf]; omega
  · have hB10 : BuX 64 B b (l ++ ts.flatten) wr := by rw [List.take_of_length_le (by omega)] at hB; exact hB
    clear hB; go_wp2; go_end0; exact ⟨rfl, hB10, hF⟩
theorem wput_new (B b : Nat) (ts : List Nm) (c : Array Value) (l : List UInt8) (W : World) (hc : c = strA ts) (h : BuX 64 B b l W) (hlen : l.length + ts.flatten.length ≤ 1099511627776) (hts : ts.length ≤ 1000000) (hBw : B ≤ W.heap.size) :
 Calls Tryz.prog 45 #[.pointer (some ⟨b, 0, none⟩), .slice (some ⟨W.heap.size, 0, none⟩) ts.length ts.length] (W.alloc (.cells c 9)) fun e w' => e = .returned (.tuple #[]) ∧ BuX 64 B b (l ++ ts.flatten) w' ∧ Fr B b W w' := by
 subst hc; refine (wput_c B b W.heap.size ts l _ (h.of_bl ((Bl.refl _).alloc _)) (heap_alloc_new _ _) (by have := h.lt; omega) hlen hts (by simp; omega)).mono ?_; rintro e w' ⟨rfl, h1, h2⟩; exact ⟨rfl, h1, (Fr.of_bl ((Bl.refl _).alloc _)).trans h2⟩
theorem wput_1 (b : Nat) (s1 : Nm) (l : List UInt8) (W : World) (h : BuX 64 b b l W) (hlen : l.length + (s1.length) ≤ 1099511627776) (hBw : b ≤ W.heap.size) :
 Calls Tryz.prog 45 #[.pointer (some ⟨b, 0, none⟩), .slice (some ⟨W.heap.size, 0, none⟩) 1 1] (W.alloc (.cells #[.string ⟨s1.toArray⟩] 9)) fun e w' => e = .returned (.tuple #[]) ∧ BuX 64 b b (l ++ (s1)) w' ∧ Fr b b W w' := by
 have h2 := wput_new b b [s1] #[.string ⟨s1.toArray⟩] l W rfl h (by simp only [List.flatten_cons, List.flatten_nil, List.length_append, List.length_nil]; omega) (by simp) hBw; simp only [List.flatten_cons, List.flatten_nil, List.append_nil] at h2; exact h2
theorem wput_2 (b : Nat) (s1 s2 : Nm) (l : List UInt8) (W : World) (h : BuX 64 b b l W) (hlen : l.length + (s1.length + s2.length) ≤ 1099511627776) (hBw : b ≤ W.heap.size) :
 Calls Tryz.prog 45 #[.pointer (some ⟨b, 0, none⟩), .slice (some ⟨W.heap.size, 0, none⟩) 2 2] (W.alloc (.cells #[.string ⟨s1.toArray⟩, .string ⟨s2.toArray⟩] 9)) fun e w' => e = .returned (.tuple #[]) ∧ BuX 64 b b (l ++ (s1 ++ s2)) w' ∧ Fr b b W w' := by
 have h2 := wput_new b b [s1, s2] #[.string ⟨s1.toArray⟩, .string ⟨s2.toArray⟩] l W rfl h (by simp only [List.flatten_cons, List.flatten_nil, List.length_append, List.length_nil]; omega) (by simp) hBw; simp only [List.flatten_cons, List.flatten_nil, List.append_nil] at h2; exact h2
theorem wput_3 (b : Nat) (s1 s2 s3 : Nm) (l : List UInt8) (W : World) (h : BuX 64 b b l W) (hlen : l.length + (s1.length + s2.length + s3.length) ≤ 1099511627776) (hBw : b ≤ W.heap.size) :
 Calls Tryz.prog 45 #[.pointer (some ⟨b, 0, none⟩), .slice (some ⟨W.heap.size, 0, none⟩) 3 3] (W.alloc (.cells #[.string ⟨s1.toArray⟩, .string ⟨s2.toArray⟩, .string ⟨s3.toArray⟩] 9)) fun e w' => e = .returned (.tuple #[]) ∧ BuX 64 b b (l ++ (s1 ++ (s2 ++ s3))) w' ∧ Fr b b W w' := by
 have h2 := wput_new b b [s1, s2, s3] #[.string ⟨s1.toArray⟩, .string ⟨s2.toArray⟩, .string ⟨s3.toArray⟩] l W rfl h (by simp only [List.flatten_cons, List.flatten_nil, List.length_append, List.length_nil]; omega) (by simp) hBw; simp only [List.flatten_cons, List.flatten_nil, List.append_nil] at h2; exact h2
theorem wput_5 (b : Nat) (s1 s2 s3 s4 s5 : Nm) (l : List UInt8) (W : World) (h : BuX 64 b b l W) (hlen : l.length + (s1.length + s2.length + s3.length + s4.length + s5.length) ≤ 1099511627776) (hBw : b ≤ W.heap.size) :
 Calls Tryz.prog 45 #[.pointer (some ⟨b, 0, none⟩), .slice (some ⟨W.heap.size, 0, none⟩) 5 5] (W.alloc (.cells #[.string ⟨s1.toArray⟩, .string ⟨s2.toArray⟩, .string ⟨s3.toArray⟩, .string ⟨s4.toArray⟩, .string ⟨s5.toArray⟩] 9)) fun e w' => e = .returned (.tuple #[]) ∧ BuX 64 b b (l ++ (s1 ++ (s2 ++ (s3 ++ (s4 ++ s5))))) w' ∧ Fr b b W w' := by
 have h2 := wput_new b b [s1, s2, s3, s4, s5] #[.string ⟨s1.toArray⟩, .string ⟨s2.toArray⟩, .string ⟨s3.toArray⟩, .string ⟨s4.toArray⟩, .string ⟨s5.toArray⟩] l W rfl h (by simp only [List.flatten_cons, List.flatten_nil, List.length_append, List.length_nil]; omega) (by simp) hBw; simp only [List.flatten_cons, List.flatten_nil, List.append_nil] at h2; exact h2
theorem row5 {w : World} {q : Nat} {a b c d e : Value} {t : TypeId} (h : w.heap[q]? = some (.cells #[a, b, c, d, e] t (0, 0))) : q < w.heap.size ∧ w.cell? ⟨q, 0, none⟩ = some a ∧ w.cell? ⟨q, 1, none⟩ = some b ∧ w.cell? ⟨q, 2, none⟩ = some c ∧ w.cell? ⟨q, 3, none⟩ = some d ∧ w.cell? ⟨q, 4, none⟩ = some e := ⟨(Array.getElem?_eq_some_iff.1 h).1, by simp [World.cell?, h], by simp [World.cell?, h], by simp [World.cell?, h], by simp [World.cell?, h], by simp [World.cell?, h]⟩
theorem lkT_len (x : Ent) : (lkT x).length ≤ 15 + 6 * (eT x).length + 6 * (eL x).length := by
 have h1 := PutL_len (eT x); have h2 := PutL_len (eL x); unfold lkT; split
 · omega
 · simp only [List.length_append, cA1, cA2, cA3, List.length_cons, List.length_nil]; omega
theorem dtT_len {x : Ent} {t : List UInt8} (h : eA x ≠ 0 → DT (eA x) t) : (dtT x t).length ≤ 21 := by
 unfold dtT; split
 · simp
 · rename_i h0; simp only [List.length_cons, DT_len (h h0)]; omega
theorem lineT_len {x : Ent} (hx : chkE x = 0) {t : List UInt8} (h : eA x ≠ 0 → DT (eA x) t) : (lineT x t).length ≤ 10000000 := by
 obtain ⟨x1, x2, x3⟩ := chk_in hx; have h1 := lkT_len x; have h2 := dtT_len h; have h3 := PutL_len (wdU (eH x)); have h4 := wdU_len (eH x) x3; unfold lineT; simp only [List.length_append, cLi, cP, cE, List.length_cons, List.length_nil]; omega
theorem line_c (x : Ent) (t : List UInt8) (hx : chkE x = 0) (ht : eA x ≠ 0 → DT (eA x) t) (l : List UInt8) (w0 w : World) (hb0 : Bl w0 w) (hE : ES w0) (hM : ML w0) (hT : TI w0) (hB : BuX 64 w0.heap.size w0.heap.size l w) (hl : l.length ≤ 1000000000) :
 Calls Tryz.prog 43 #[.pointer (some ⟨w0.heap.size, 0, none⟩), enV x] w fun e w' => e = .returned (.tuple #[]) ∧ BuX 64 w0.heap.size w0.heap.size (l ++ lineT x t) w' ∧ Fr w0.heap.size w0.heap.size w w' := by
 obtain ⟨x1, x2, x3⟩ := chk_in hx; have hu := wdU_len (eH x) x3; have p1 := PutL_len (eT x); have p2 := PutL_len (eL x); have p3 := PutL_len (wdU (eH x)); have k1 := lkT_len x; have k2 := dtT_len ht; have hB0 := hB.of_bl ((Bl.refl w).alloc (enO x 23)); have hF0 : Fr w0.heap.size w0.heap.size w (w.alloc (enO x 23)) := Fr.of_bl ((Bl.refl w).alloc _); have r0 := heap_alloc_new w (enO x 23); have hqb : w.heap.size ≠ w0.heap.size := by have := hB.lt; omega
 have hbw : w0.heap.size ≤ w.heap.size := Below.size hb0; have HBW := Lib.hid (fun W (hf : Fr w0.heap.size w0.heap.size w W) => Nat.le_trans hbw hf.size); have HE := Lib.hid (fun W (hf : Fr w0.heap.size w0.heap.size w W) => hE.of_bl (hb0.trans' hf (Nat.le_refl _))); have HM := Lib.hid (fun W (hf : Fr w0.heap.size w0.heap.size w W) => hM.of_bl (hb0.trans' hf (Nat.le_refl _))); have HTI := Lib.hid (fun W (hf : Fr w0.heap.size w0.heap.size w W) => hT.of_bl (hb0.trans' hf (Nat.le_refl _))); obtain ⟨b, hb⟩ : ∃ b, b = w0.heap.size := ⟨_, rfl⟩; rw [← hb] at hB0 hF0 hqb HBW HE HM HTI ⊢; clear hE hM hT hB hb0 hbw hb; obtain ⟨L1, hL1⟩ : ∃ L, L = l ++ cLi := ⟨_, rfl⟩; obtain ⟨L4, hL4⟩ : ∃ L, L = L1 ++ lkT x := ⟨_, rfl⟩; obtain ⟨L6, hL6⟩ : ∃ L, L = L4 ++ dtT x t := ⟨_, rfl⟩; have n1 : L1.length = l.length + 4 := by rw [hL1]; simp [cLi]
 have n4 : L4.length = L1.length + (lkT x).length := by rw [hL4]; simp
 have n6 : L6.length = L4.length + (dtT x t).length := by rw [hL6]; simp
 have HL := Lib.hid (show L6 ++ (cP ++ (PutL (wdU (eH x)) ++ cE)) = l ++ lineT x t by rw [hL6, hL4, hL1]; unfold lineT; simp only [List.append_assoc]); have P1 := Lib.hid (fun q W (hq : q = W.heap.size) (h1 : BuX 64 b b l W) (h2 : b ≤ W.heap.size) => (show Calls Tryz.prog 45 #[.pointer (some ⟨b, 0, none⟩), .slice (some ⟨q, 0, none⟩) 1 1] (W.alloc (.cells #[.string ⟨#[60, 108, 105, 62]⟩] 9)) (fun e w' => e = .returned (.tuple #[]) ∧ BuX 64 b b L1 w' ∧ Fr b b W w') from by subst hq; rw [hL1]; exact wput_1 b [60, 108, 105, 62] l W h1 (by simp; omega) h2)); have P9 := Lib.hid (fun q W (hq : q = W.heap.size) (h1 : BuX 64 b b L6 W) (h2 : b ≤ W.heap.size) => (show Calls Tryz.prog 45 #[.pointer (some ⟨b, 0, none⟩), .slice (some ⟨q, 0, none⟩) 3 3] (W.alloc (.cells #[.string ⟨#[60, 112, 62]⟩, .string ⟨(PutL (wdU (eH x))).toArray⟩, .string ⟨#[60, 47, 112, 62, 60, 47, 108, 105, 62]⟩] 9)) (fun e w' => e = .returned (.tuple #[]) ∧ BuX 64 b b (l ++ lineT x t) w' ∧ Fr b b W w') from by subst hq; rw [← HL.out]; exact wput_3 b [60, 112, 62] (PutL (wdU (eH x))) [60, 47, 112, 62, 60, 47, 108, 105, 62] L6 W h1 (by simp; omega) h2)); have P6 := Lib.hid (fun (h0 : eA x ≠ 0) q W (hq : q = W.heap.size) (h1 : BuX 64 b b L4 W) (h2 : b ≤ W.heap.size) => (show Calls Tryz.prog 45 #[.pointer (some ⟨b, 0, none⟩), .slice (some ⟨q, 0, none⟩) 2 2] (W.alloc (.cells #[.string ⟨#[32]⟩, .string ⟨t.toArray⟩] 9)) (fun e w' => e = .returned (.tuple #[]) ∧ BuX 64 b b L6 w' ∧ Fr b b W w') from by subst hq; rw [hL6]; unfold dtT; rw [if_neg h0]; exact wput_2 b [32] t L4 W h1 (by rw [DT_len (ht h0)]; simp; omega) h2)); have P4a := Lib.hid (fun (h0 : eL x ≠ []) q W (hq : q = W.heap.size) (h1 : BuX 64 b b L1 W) (h2 : b ≤ W.heap.size) => (show Calls Tryz.prog 45 #[.pointer (some ⟨b, 0, none⟩), .slice (some ⟨q, 0, none⟩) 5 5] (W.alloc (.cells #[.string ⟨#[60, 97, 32, 104, 114, 101, 102, 61, 34]⟩, .string ⟨(PutL (eL x)).toArray⟩, .string ⟨#[34, 62]⟩, .string ⟨(PutL (eT x)).toArray⟩, .string ⟨#[60, 47, 97, 62]⟩] 9)) (fun e w' => e = .returned (.tuple #[]) ∧ BuX 64 b b L4 w' ∧ Fr b b W w') from by subst hq; rw [hL4]; unfold lkT; rw [if_neg h0]; have h := wput_5 b [60, 97, 32, 104, 114, 101, 102, 61, 34] (PutL (eL x)) [34, 62] (PutL (eT x)) [60, 47, 97, 62] L1 W h1 (by simp; omega) h2; simpa only [cA1, cA2, cA3, List.append_assoc] using h)); have P4b := Lib.hid (fun (h0 : eL x = []) q W (hq : q = W.heap.size) (h1 : BuX 64 b b L1 W) (h2 : b ≤ W.heap.size) => (show Calls Tryz.prog 45 #[.pointer (some ⟨b, 0, none⟩), .slice (some ⟨q, 0, none⟩) 1 1] (W.alloc (.cells #[.string ⟨(PutL (eT x)).toArray⟩] 9)) (fun e w' => e = .returned (.tuple #[]) ∧ BuX 64 b b L4 w' ∧ Fr b b W w') from by subst hq; rw [hL4]; unfold lkT; rw [if_pos h0]; exact wput_1 b (PutL (eT x)) L1 W h1 (by omega) h2)); have HD0 := Lib.hid (show eA x = 0 → L4 = L6 from fun h => by rw [hL6]; unfold dtT; rw [if_pos h, List.append_nil]); have T1 := Lib.hid (fun W => told_c (eT x) (by omega) W); have T2 := Lib.hid (fun W => told_c (eL x) (by omega) W); have T3 := Lib.hid (fun W => told_c (wdU (eH x)) (by omega) W); have WC := Lib.hid (fun W h1 h2 => toldW_c (eH x) x3 W h1 h2); have DC := Lib.hid (fun (h0 : eA x ≠ 0) W h => dprint_c (eA x) t (ht h0) W h); have R0 := Lib.hid r0; clear hx ht hl x1 x2 x3 hu p1 p2 p3 k1 k2 n1 n4 n6 hL1 hL4 hL6 r0; unfold enO at hB0 hF0 R0; unfold enV; by_cases h1 : eL x = []
 · have P4 := Lib.hid (P4b.out h1); have hle : (eL x).isEmpty = true := by rw [h1]; rfl
   clear h1 P4a P4b; by_cases h2 : eA x = 0
   · have hab : (eA x == 0) = true := by rw [h2]; rfl
     have hac : (eA x != 0) = false := by rw [h2]; rfl
     have HL46 := HD0.out h2; subst HL46; clear h2 P6 DC HD0; go_enter Tryz.func43, Tryz.ntmps43; go_wp2_with (first | (go_at_call 45; (with_reducible refine (P1.out _ _ ?_ hB0 (HBW.out _ hF0)).mono ?_); (first | rfl | simp); rintro e w1 ⟨rfl, hB1, hG1⟩; have hF1 := hF0.trans hG1; have R1 := Lib.hid (hG1.row R0.out (by decide) hqb); obtain ⟨l1, y1a, y1b, y1c, y1d, y1e⟩ := row5 R1.out) | (go_at_call 73; (with_reducible refine (T1.out _).mono ?_); rintro e w2 ⟨rfl, hb2⟩; have hF2 := hF1.bl hb2; have hB2 := hB1.of_bl hb2; have R2 := Lib.hid (keep_bl R1.out hb2); clear l1 y1a y1b y1c y1d y1e; obtain ⟨l2, y2a, y2b, y2c, y2d, y2e⟩ := row5 R2.out) | (go_at_call 45; (with_reducible refine (P4.out _ _ ?_ hB2 (HBW.out _ hF2)).mono ?_); (first | rfl | simp); rintro e w4 ⟨rfl, hB4, hG4⟩; have hF4 := hF2.trans hG4; have R4 := Lib.hid (hG4.row R2.out (by decide) hqb); clear l2 y2a y2b y2c y2d y2e; obtain ⟨l4, y4a, y4b, y4c, y4d, y4e⟩ := row5 R4.out) | (go_at_call 22; (with_reducible refine (WC.out _ (HE.out _ hF4) (HM.out _ hF4)).mono ?_); rintro e w7 ⟨rfl, hb7⟩; have hF7 := hF4.bl hb7; have hB7 := hB4.of_bl hb7; have R7 := Lib.hid (keep_bl R4.out hb7); clear l4 y4a y4b y4c y4d y4e; obtain ⟨l7, y7a, y7b, y7c, y7d, y7e⟩ := row5 R7.out) | (go_at_call 73; (with_reducible refine (T3.out _).mono ?_); rintro e w8 ⟨rfl, hb8⟩; have hF8 := hF7.bl hb8; have hB8 := hB7.of_bl hb8; have R8 := Lib.hid (keep_bl R7.out hb8); clear l7 y7a y7b y7c y7d y7e; obtain ⟨l8, y8a, y8b, y8c, y8d, y8e⟩ := row5 R8.out) | (go_at_call 45; (with_reducible refine (P9.out _ _ ?_ hB8 (HBW.out _ hF8)).mono ?_); (first | rfl | simp); rintro e w9 ⟨rfl, hB9, hG9⟩; have hF9 := hF8.trans hG9; have R9 := Lib.hid (hG9.row R8.out (by decide) hqb); clear l8 y8a y8b y8c y8d y8e; obtain ⟨l9, y9a, y9b, y9c, y9d, y9e⟩ := row5 R9.out)); go_end0; exact ⟨rfl, hB9, hF9⟩
   · have P62 := Lib.hid (P6.out h2); have DC2 := Lib.hid (DC.out h2); have hab : (eA x == 0) = false := by simpa using h2
     have hac : (eA x != 0) = true := by simpa using h2
     clear h2 P6 DC HD0; go_enter Tryz.func43, Tryz.ntmps43; go_wp2_with (first | (go_at_call 45; (with_reducible refine (P1.out _ _ ?_ hB0 (HBW.out _ hF0)).mono ?_); (first | rfl | simp); rintro e w1 ⟨rfl, hB1, hG1⟩; have hF1 := hF0.trans hG1; have R1 := Lib.hid (hG1.row R0.out (by decide) hqb); obtain ⟨l1, y1a, y1b, y1c, y1d, y1e⟩ := row5 R1.out) | (go_at_call 73; (with_reducible refine (T1.out _).mono ?_); rintro e w2 ⟨rfl, hb2⟩; have hF2 := hF1.bl hb2; have hB2 := hB1.of_bl hb2; have R2 := Lib.hid (keep_bl R1.out hb2); clear l1 y1a y1b y1c y1d y1e; obtain ⟨l2, y2a, y2b, y2c, y2d, y2e⟩ := row5 R2.out) | (go_at_call 45; (with_reducible refine (P4.out _ _ ?_ hB2 (HBW.out _ hF2)).mono ?_); (first | rfl | simp); rintro e w4 ⟨rfl, hB4, hG4⟩; have hF4 := hF2.trans hG4; have R4 := Lib.hid (hG4.row R2.out (by decide) hqb); clear l2 y2a y2b y2c y2d y2e; obtain ⟨l4, y4a, y4b, y4c, y4d, y4e⟩ := row5 R4.out) | (go_at_call 74; (with_reducible refine (DC2.out _ (HTI.out _ hF4)).mono ?_); rintro e w5 ⟨rfl, hb5⟩; have hF5 := hF4.bl hb5; have hB5 := hB4.of_bl hb5; have R5 := Lib.hid (keep_bl R4.out hb5); clear l4 y4a y4b y4c y4d y4e; obtain ⟨l5, y5a, y5b, y5c, y5d, y5e⟩ := row5 R5.out) | (go_at_call 45; (with_reducible refine (P62.out _ _ ?_ hB5 (HBW.out _ hF5)).mono ?_); (first | rfl | simp); rintro e w6 ⟨rfl, hB6, hG6⟩; have hF6 := hF5.trans hG6; have R6 := Lib.hid (hG6.row R5.out (by decide) hqb); clear l5 y5a y5b y5c y5d y5e; obtain ⟨l6, y6a, y6b, y6c, y6d, y6e⟩ := row5 R6.out) | (go_at_call 22; (with_reducible refine (WC.out _ (HE.out _ hF6) (HM.out _ hF6)).mono ?_); rintro e w7 ⟨rfl, hb7⟩; have hF7 := hF6.bl hb7; have hB7 := hB6.of_bl hb7; have R7 := Lib.hid (keep_bl R6.out hb7); clear l6 y6a y6b y6c y6d y6e; obtain ⟨l7, y7a, y7b, y7c, y7d, y7e⟩ := row5 R7.out) | (go_at_call 73; (with_reducible refine (T3.out _).mono ?_); rintro e w8 ⟨rfl, hb8⟩; have hF8 := hF7.bl hb8; have hB8 := hB7.of_bl hb8; have R8 := Lib.hid (keep_bl R7.out hb8); clear l7 y7a y7b y7c y7d y7e; obtain ⟨l8, y8a, y8b, y8c, y8d, y8e⟩ := row5 R8.out) | (go_at_call 45; (with_reducible refine (P9.out _ _ ?_ hB8 (HBW.out _ hF8)).mono ?_); (first | rfl | simp); rintro e w9 ⟨rfl, hB9, hG9⟩; have hF9 := hF8.trans hG9; have R9 := Lib.hid (hG9.row R8.out (by decide) hqb); clear l8 y8a y8b y8c y8d y8e; obtain ⟨l9, y9a, y9b, y9c, y9d, y9e⟩ := row5 R9.out)); go_end0; exact ⟨rfl, hB9, hF9⟩
 · have P4 := Lib.hid (P4a.out h1); have hle := emp h1; clear h1 P4a P4b; by_cases h2 : eA x = 0
   · have hab : (eA x == 0) = true := by rw [h2]; rfl
     have hac : (eA x != 0) = false := by rw [h2]; rfl
     have HL46 := HD0.out h2; subst HL46; clear h2 P6 DC HD0; go_enter Tryz.func43, Tryz.ntmps43; go_wp2_with (first | (go_at_call 45; (with_reducible refine (P1.out _ _ ?_ hB0 (HBW.out _ hF0)).mono ?_); (first | rfl | simp); rintro e w1 ⟨rfl, hB1, hG1⟩; have hF1 := hF0.trans hG1; have R1 := Lib.hid (hG1.row R0.out (by decide) hqb); obtain ⟨l1, y1a, y1b, y1c, y1d, y1e⟩ := row5 R1.out) | (go_at_call 73; (with_reducible refine (T1.out _).mono ?_); rintro e w2 ⟨rfl, hb2⟩; have hF2 := hF1.bl hb2; have hB2 := hB1.of_bl hb2; have R2 := Lib.hid (keep_bl R1.out hb2); clear l1 y1a y1b y1c y1d y1e; obtain ⟨l2, y2a, y2b, y2c, y2d, y2e⟩ := row5 R2.out) | (go_at_call 73; (with_reducible refine (T2.out _).mono ?_); rintro e w3 ⟨rfl, hb3⟩; have hF3 := hF2.bl hb3; have hB3 := hB2.of_bl hb3; have R3 := Lib.hid (keep_bl R2.out hb3); clear l2 y2a y2b y2c y2d y2e; obtain ⟨l3, y3a, y3b, y3c, y3d, y3e⟩ := row5 R3.out) | (go_at_call 45; (with_reducible refine (P4.out _ _ ?_ hB3 (HBW.out _ hF3)).mono ?_); (first | rfl | simp); rintro e w4 ⟨rfl, hB4, hG4⟩; have hF4 := hF3.trans hG4; have R4 := Lib.hid (hG4.row R3.out (by decide) hqb); clear l3 y3a y3b y3c y3d y3e; obtain ⟨l4, y4a, y4b, y4c, y4d, y4e⟩ := row5 R4.out) | (go_at_call 22; (with_reducible refine (WC.out _ (HE.out _ hF4) (HM.out _ hF4)).mono ?_); rintro e w7 ⟨rfl, hb7⟩; have hF7 := hF4.bl hb7; have hB7 := hB4.of_bl hb7; have R7 := Lib.hid (keep_bl R4.out hb7); clear l4 y4a y4b y4c y4d y4e; obtain ⟨l7, y7a, y7b, y7c, y7d, y7e⟩ := row5 R7.out) | (go_at_call 73; (with_reducible refine (T3.out _).mono ?_); rintro e w8 ⟨rfl, hb8⟩; have hF8 := hF7.bl hb8; have hB8 := hB7.of_bl hb8; have R8 := Lib.hid (keep_bl R7.out hb8); clear l7 y7a y7b y7c y7d y7e; obtain ⟨l8, y8a, y8b, y8c, y8d, y8e⟩ := row5 R8.out) | (go_at_call 45; (with_reducible refine (P9.out _ _ ?_ hB8 (HBW.out _ hF8)).mono ?_); (first | rfl | simp); rintro e w9 ⟨rfl, hB9, hG9⟩; have hF9 := hF8.trans hG9; have R9 := Lib.hid (hG9.row R8.out (by decide) hqb); clear l8 y8a y8b y8c y8d y8e; obtain ⟨l9, y9a, y9b, y9c, y9d, y9e⟩ := row5 R9.out)); go_end0; exact ⟨rfl, hB9, hF9⟩
   · have P62 := Lib.hid (P6.out h2); have DC2 := Lib.hid (DC.out h2); have hab : (eA x == 0) = false := by simpa using h2
     have hac : (eA x != 0) = true := by simpa using h2
     clear h2 P6 DC HD0; go_enter Tryz.func43, Tryz.ntmps43; go_wp2_with (first | (go_at_call 45; (with_reducible refine (P1.out _ _ ?_ hB0 (HBW.out _ hF0)).mono ?_); (first | rfl | simp); rintro e w1 ⟨rfl, hB1, hG1⟩; have hF1 := hF0.trans hG1; have R1 := Lib.hid (hG1.row R0.out (by decide) hqb); obtain ⟨l1, y1a, y1b, y1c, y1d, y1e⟩ := row5 R1.out) | (go_at_call 73; (with_reducible refine (T1.out _).mono ?_); rintro e w2 ⟨rfl, hb2⟩; have hF2 := hF1.bl hb2; have hB2 := hB1.of_bl hb2; have R2 := Lib.hid (keep_bl R1.out hb2); clear l1 y1a y1b y1c y1d y1e; obtain ⟨l2, y2a, y2b, y2c, y2d, y2e⟩ := row5 R2.out) | (go_at_call 73; (with_reducible refine (T2.out _).mono ?_); rintro e w3 ⟨rfl, hb3⟩; have hF3 := hF2.bl hb3; have hB3 := hB2.of_bl hb3; have R3 := Lib.hid (keep_bl R2.out hb3); clear l2 y2a y2b y2c y2d y2e; obtain ⟨l3, y3a, y3b, y3c, y3d, y3e⟩ := row5 R3.out) | (go_at_call 45; (with_reducible refine (P4.out _ _ ?_ hB3 (HBW.out _ hF3)).mono ?_); (first | rfl | simp); rintro e w4 ⟨rfl, hB4, hG4⟩; have hF4 := hF3.trans hG4; have R4 := Lib.hid (hG4.row R3.out (by decide) hqb); clear l3 y3a y3b y3c y3d y3e; obtain ⟨l4, y4a, y4b, y4c, y4d, y4e⟩ := row5 R4.out) | (go_at_call 74; (with_reducible refine (DC2.out _ (HTI.out _ hF4)).mono ?_); rintro e w5 ⟨rfl, hb5⟩; have hF5 := hF4.bl hb5; have hB5 := hB4.of_bl hb5; have R5 := Lib.hid (keep_bl R4.out hb5); clear l4 y4a y4b y4c y4d y4e; obtain ⟨l5, y5a, y5b, y5c, y5d, y5e⟩ := row5 R5.out) | (go_at_call 45; (with_reducible refine (P62.out _ _ ?_ hB5 (HBW.out _ hF5)).mono ?_); (first | rfl | simp); rintro e w6 ⟨rfl, hB6, hG6⟩; have hF6 := hF5.trans hG6; have R6 := Lib.hid (hG6.row R5.out (by decide) hqb); clear l5 y5a y5b y5c y5d y5e; obtain ⟨l6, y6a, y6b, y6c, y6d, y6e⟩ := row5 R6.out) | (go_at_call 22; (with_reducible refine (WC.out _ (HE.out _ hF6) (HM.out _ hF6)).mono ?_); rintro e w7 ⟨rfl, hb7⟩; have hF7 := hF6.bl hb7; have hB7 := hB6.of_bl hb7; have R7 := Lib.hid (keep_bl R6.out hb7); clear l6 y6a y6b y6c y6d y6e; obtain ⟨l7, y7a, y7b, y7c, y7d, y7e⟩ := row5 R7.out) | (go_at_call 73; (with_reducible refine (T3.out _).mono ?_); rintro e w8 ⟨rfl, hb8⟩; have hF8 := hF7.bl hb8; have hB8 := hB7.of_bl hb8; have R8 := Lib.hid (keep_bl R7.out hb8); clear l7 y7a y7b y7c y7d y7e; obtain ⟨l8, y8a, y8b, y8c, y8d, y8e⟩ := row5 R8.out) | (go_at_call 45; (with_reducible refine (P9.out _ _ ?_ hB8 (HBW.out _ hF8)).mono ?_); (first | rfl | simp); rintro e w9 ⟨rfl, hB9, hG9⟩; have hF9 := hF8.trans hG9; have R9 := Lib.hid (hG9.row R8.out (by decide) hqb); clear l8 y8a y8b y8c y8d y8e; obtain ⟨l9, y9a, y9b, y9c, y9d, y9e⟩ := row5 R9.out)); go_end0; exact ⟨rfl, hB9, hF9⟩
theorem rLine_bad (x : Ent) (hx : chkE x ≠ 0) (w : World) (hE : ES w) (hM : ML w) :
 Calls Tryz.prog 18 #[enV x] w fun e w' => e = .returned (.tuple #[.string ⟨#[]⟩, .int .i64 (chkE x)]) ∧ Bl w w' := by
 have hB0 := B5.new w x 23; have hb0 : Bl w (w.alloc (enO x 23)) := (Bl.refl _).alloc _; have CC := Lib.hid (fun W h1 h2 => chkE_c x W h1 h2); have hE0 := hE.of_bl hb0; have hM0 := hM.of_bl hb0; unfold enO at hB0 hb0 hE0 hM0; unfold enV at CC ⊢; obtain ⟨C, hC⟩ : ∃ C, C = chkE x := ⟨_, rfl⟩; rw [← hC] at CC hx ⊢; have hd : (C == 0) = false := by simpa using hx
 have hd2 : (C != 0) = true := by simpa using hx
 clear hC hx hE hM; go_enter Tryz.func18, Tryz.ntmps18; go_wp2_with (go_at_call 23; (with_reducible refine (CC.out _ hE0 hM0).mono ?_); rintro e w1 ⟨rfl, hb1⟩); go_ret2; exact ⟨rfl, hb0.trans hb1⟩
theorem rLine_ok (x : Ent) (t : List UInt8) (hx : chkE x = 0) (ht : eA x ≠ 0 → DT (eA x) t) (w : World) (hE : ES w) (hM : ML w) (hT : TI w) :
 Calls Tryz.prog 18 #[enV x] w fun e w' => e = .returned (.tuple #[.string ⟨(lineT x t).toArray⟩, .int .i64 0]) ∧ Bl w w' := by
 have hB0 := B5.new w x 23; have hb0 : Bl w (w.alloc (enO x 23)) := (Bl.refl _).alloc _; have CC := Lib.hid (fun W h1 h2 => chkE_c x W h1 h2); rw [hx] at CC; have hE0 := hE.of_bl hb0; have hM0 := hM.of_bl hb0; have hT0 := hT.of_bl hb0; have LC := Lib.hid (fun (w1 : World) (hb : Bl w w1) => line_c x t hx ht [] w1 (w1.alloc (.cells #[.pointer none, .slice none 0 0] 64)) ((Bl.refl _).alloc _) (hE.of_bl hb) (hM.of_bl hb) (hT.of_bl hb) (BuX.new _ _ _) (by decide)); have SC := Lib.hid (fun B b W h => strT_c 64 B b (lineT x t) W h); unfold enO at hB0 hb0 hE0 hM0; unfold enV at CC LC ⊢; obtain ⟨L, hL⟩ : ∃ L, L = lineT x t := ⟨_, rfl⟩; simp only [List.nil_append] at LC; rw [← hL] at LC SC ⊢; clear hL hx ht hE hM hT hT0; go_enter Tryz.func18, Tryz.ntmps18; go_wp2_with (first | (go_at_call 23; (with_reducible refine (CC.out _ hE0 hM0).mono ?_); rintro e w1 ⟨rfl, hb1⟩; obtain ⟨lq, y0, y1, y2, y3, y4⟩ := hB0.of_bl hb1) | (go_at_call 43; (with_reducible refine (LC.out _ (hb0.trans hb1)).mono ?_); rintro e w2 ⟨rfl, hB2, hF2⟩) | (go_at_call 44; (with_reducible refine (SC.out _ _ _ hB2).mono ?_); rintro e w3 ⟨rfl, hF3⟩)); go_ret2; exact ⟨rfl, (hb0.trans hb1).trans (((Bl.refl _).alloc _).trans' (hF2.trans hF3) (Nat.le_refl _))⟩
noncomputable def rgL (l : List Ent) : List UInt8 := [60, 117, 108, 62] ++ l.flatMap lineP
noncomputable def rgP (l : List Ent) : List UInt8 := rgL l ++ [60, 47, 117, 108, 62]
theorem rgL_take (l : List Ent) (k : Nat) (h : k < l.length) : rgL (l.take (k + 1)) = rgL (l.take k) ++ lineP l[k] := by
 unfold rgL; rw [take_snoc l k h, List.flatMap_append, ← List.append_assoc]; congr 1; simp [List.flatMap_cons]
theorem tm_date {x : Ent} (h : chkE x = 0) : DT (eA x) (datP (eA x)) := by
 obtain ⟨h1, h2⟩ := tm_of h; exact datP_spec _ h1 h2
theorem rgL_len (l : List Ent) (h : ∀ x ∈ l, chkE x = 0) : (rgL l).length ≤ 4 + 10000000 * l.length := by
 unfold rgL; induction l with
 | nil => simp
 | cons x l ih =>
   have h1 := lineT_len (h x (by simp)) (fun _ => tm_date (h x (by simp))); have h2 := ih (fun y hy => h y (List.mem_cons_of_mem _ hy)); simp only [List.flatMap_cons, List.length_append, List.length_cons] at h2 ⊢; have h3 : (lineP x).length ≤ 10000000 := h1; omega
theorem rPage_bad (s : Shf) (v : Value) (hI : ∀ x ∈ s.1, (eI x).length ≤ 9223372036854775807) (hc : ckS s ≠ 0) (w : World) (hE : ES w) (hM : ML w) (hS : ShS w v s) :
 Calls Tryz.prog 19 #[v] w fun e w' => e = .returned (.tuple #[.string ⟨#[]⟩, .int .i64 (ckS s)]) ∧ Bl w w' := by
 have CK := Lib.hid (fun W (hh : Bl w W) => checkS_c s v hI W (hE.of_bl hh) (hM.of_bl hh) (hS.of_bl hh)); obtain ⟨C, hC⟩ : ∃ C, C = ckS s := ⟨_, rfl⟩; rw [← hC] at CK hc ⊢; clear hC; obtain ⟨ve, vr, rfl, hEn, hRd⟩ := hS; obtain ⟨ao, cap, rfl, hcap, -⟩ := hEn; obtain ⟨ar, cr, rfl, hcr, -⟩ := hRd; have hd : (C == 0) = false := by simpa using hc
 have hd2 : (C != 0) = true := by simpa using hc
 clear hE hM hc; go_enter Tryz.func19, Tryz.ntmps19; go_wp2_with (go_at_call 26; (with_reducible refine (CK.out _ (by repeat (first | exact Bl.refl _ | refine Bl.alloc ?_ _))).mono ?_); rintro e w1 ⟨rfl, hb1⟩; have hW1 : Bl w w1 := Bl.trans (by repeat (first | exact Bl.refl _ | refine Bl.alloc ?_ _)) hb1); go_ret2; exact ⟨rfl, hW1⟩
theorem rPage_ok (s : Shf) (v : Value) (hI : ∀ x ∈ s.1, (eI x).length ≤ 9223372036854775807) (hck : ckS s = 0) (w : World) (hE : ES w) (hM : ML w) (hT : TI w) (hS : ShS w v s) :
 Calls Tryz.prog 19 #[v] w fun e w' => e = .returned (.tuple #[.string ⟨(rgP s.1).toArray⟩, .int .i64 0]) ∧ Bl w w' := by
 have CK := Lib.hid (fun W (hh : Bl w W) => checkS_c s v hI W (hE.of_bl hh) (hM.of_bl hh) (hS.of_bl hh)); rw [hck] at CK; have hRs := (ckS_iff s).1 hck; obtain ⟨hs20, -, ⟨-, -, hch⟩, -, -⟩ := hRs; have hpl := rgL_len s.1 hch; have LC := Lib.hid (fun k (h : k < s.1.length) (w1 W : World) (hb : Bl w w1) (hb2 : Bl w1 W) (hB : BuX 64 w1.heap.size w1.heap.size (rgL (s.1.take k)) W) => line_c s.1[k] (datP (eA s.1[k])) (hch _ (List.getElem_mem h)) (fun _ => tm_date (hch _ (List.getElem_mem h))) (rgL (s.1.take k)) w1 W hb2 (hE.of_bl hb) (hM.of_bl hb) (hT.of_bl hb) hB (by have := rgL_len (s.1.take k) (fun x hx => hch x (List.mem_of_mem_take hx)); have := List.length_take_le k s.1; omega)); have P1 := Lib.hid (fun (w1 : World) => (show Calls Tryz.prog 45 #[.pointer (some ⟨w1.heap.size, 0, none⟩), .slice (some ⟨w1.heap.size + 1, 0, none⟩) 1 1] ((w1.alloc (.cells #[.pointer none, .slice none 0 0] 64)).alloc (.cells #[.string ⟨#[60, 117, 108, 62]⟩] 9)) (fun e w' => e = .returned (.tuple #[]) ∧ BuX 64 w1.heap.size w1.heap.size (rgL []) w' ∧ Bl w1 w') from by
  have h := wput_1 w1.heap.size [60, 117, 108, 62] [] (w1.alloc (.cells #[.pointer none, .slice none 0 0] 64)) (BuX.new _ _ _) (by decide) (by simp); rw [show (w1.alloc (.cells #[.pointer none, .slice none 0 0] 64)).heap.size = w1.heap.size + 1 by simp] at h; refine h.mono ?_; rintro e w' ⟨rfl, h1, h2⟩; exact ⟨rfl, h1, ((Bl.refl _).alloc _).trans' h2 (Nat.le_refl _)⟩))
 have P2 := Lib.hid (fun (b : Nat) (W : World) (h1 : BuX 64 b b (rgL s.1) W) (h2 : b ≤ W.heap.size) => (show Calls Tryz.prog 45 #[.pointer (some ⟨b, 0, none⟩), .slice (some ⟨W.heap.size, 0, none⟩) 1 1] (W.alloc (.cells #[.string ⟨#[60, 47, 117, 108, 62]⟩] 9)) (fun e w' => e = .returned (.tuple #[]) ∧ BuX 64 b b (rgP s.1) w' ∧ Fr b b W w') from wput_1 b [60, 47, 117, 108, 62] (rgL s.1) W h1 (by simp; omega) h2)); have SC := Lib.hid (fun B b W h => strT_c 64 B b (rgP s.1) W h); obtain ⟨P, hP⟩ : ∃ P, P = rgP s.1 := ⟨_, rfl⟩; rw [← hP] at P2 SC ⊢; unfold enV at LC; obtain ⟨ve, vr, rfl, hEn, hRd⟩ := hS; have HEN := Lib.hid hEn; obtain ⟨ao, cap, rfl, hcap, -⟩ := hEn; obtain ⟨ar, cr, rfl, hcr, -⟩ := hRd; have hp0 := heap_alloc_new w (.cells #[.slice ao s.1.length cap, .slice ar s.2.length cr] 27); clear hch hE hM hT hck hP hpl; go_enter Tryz.func19, Tryz.ntmps19; go_wp2_with (first | (go_at_call 26; (with_reducible refine (CK.out _ (by repeat (first | exact Bl.refl _ | refine Bl.alloc ?_ _))).mono ?_); rintro e w1 ⟨rfl, hb1⟩; have hW1 : Bl w w1 := Bl.trans (by repeat (first | exact Bl.refl _ | refine Bl.alloc ?_ _)) hb1; have HP1 := Lib.hid (keep_bl hp0 hb1)) | (go_at_call 45; (with_reducible refine (P1.out _).mono ?_); rintro e w2 ⟨rfl, hB2, hb2⟩; obtain ⟨lp, p0, p1⟩ := keep_cells (keep_bl HP1.out hb2))); go_loopw [21] (fun i wr => ∃ k : Nat, k ≤ s.1.length ∧ i = .int .i64 k ∧ BuX 64 w1.heap.size w1.heap.size (rgL (s.1.take k)) wr ∧ Bl w1 wr) (fun i _ => s.1.length - (intOf i).toNat); case atStart => exact ⟨0, Nat.zero_le _, rfl, hB2, hb2⟩
 case round =>
  obtain ⟨k, hk, rfl, hB, hbl⟩ := hrel; have hbs := Below.size hbl; by_cases hlt : k < s.1.length
  · obtain ⟨a', c', e', -, hA⟩ := HEN.out; cases e'; obtain ⟨g, o, rfl, hg, h1, h2, h3, h4, h5⟩ := hA k hlt; have hbw := hW1.trans hbl; have hgr : g < wr.heap.size := Nat.lt_of_lt_of_le hg (Below.size hbw); have x1 := (hbw.cells.1 g _ hg).trans h1; have x2 := (hbw.cells.1 g _ hg).trans h2; have x3 := (hbw.cells.1 g _ hg).trans h3; have x4 := (hbw.cells.1 g _ hg).trans h4; have x5 := (hbw.cells.1 g _ hg).trans h5; clear h1 h2 h3 h4 h5 hA; have HS := Lib.hid (show rgL (s.1.take (k + 1)) = rgL (s.1.take k) ++ lineT s.1[k] (datP (eA s.1[k])) from rgL_take s.1 k hlt); have WK := Lib.hid (fun W (hh : Bl wr W) => LC.out k hlt w1 W hW1 (hbl.trans hh) (hB.of_bl hh)); clear hB; go_wp2_with (go_at_call 43; (with_reducible refine (WK.out _ ((Bl.refl _).alloc _)).mono ?_); rintro e w4 ⟨rfl, hB4, hF4⟩); go_roundw; case rel => exact ⟨k + 1, by omega, by go_num, by rw [HS.out]; exact hB4, (hbl.trans ((Bl.refl _).alloc _)).trans' hF4 (Nat.le_refl _)⟩
    case measure => simp [intOf]; omega
  · have hB10 : BuX 64 w1.heap.size w1.heap.size (rgL s.1) wr := by rw [List.take_of_length_le (by omega)] at hB; exact hB
    clear hB; go_wp2_with (first | (go_at_call 45; (with_reducible refine (P2.out _ _ hB10 hbs).mono ?_); rintro e w5 ⟨rfl, hB5, hF5⟩) | (go_at_call 44; (with_reducible refine (SC.out _ _ _ hB5).mono ?_); rintro e w6 ⟨rfl, hF6⟩)); go_ret2; exact ⟨rfl, hW1.trans (hbl.trans' (hF5.trans hF6) (Nat.le_refl _))⟩
end Go.Proofs.YtamdlihgecpbkaaGreatDoor

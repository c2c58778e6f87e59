/- strings.Cut at a byte; strings.Builder. -/
import Derived.Test.YtkacjnifhmgeiaaGreatDoorEscF
import Derived.Lib.Builder
import Derived.Lib.Strings
import Derived.Lib.Slices
import Derived.Lib.Walk
import Derived.Lib.AppendStr
import Derived.Lib.UnsafeStr
namespace Go.Proofs.YtkacjnifhmgeiaaGreatDoor
open Go.RowKit

/-- What stands ahead of the first such byte, behind it; is it there? -/
def bef (x : UInt8) (l : List UInt8) : List UInt8 := l.takeWhile (· != x)
def aft (x : UInt8) (l : List UInt8) : List UInt8 := (l.dropWhile (· != x)).drop 1
theorem ixb (x : UInt8) (l : List UInt8) : (x ∈ l ∧ Lib.indexByte l x = (bef x l).length ∧ l = bef x l ++ x :: aft x l) ∨ (x ∉ l ∧ Lib.indexByte l x = -1 ∧ bef x l = l ∧ aft x l = []) := by
  induction l with
  | nil => right; simp [Lib.indexByte, bef, aft]
  | cons c l ih =>
    by_cases h : c = x
    · subst h
      left
      simp [Lib.indexByte, bef, aft]
    · have h' : (c != x) = true := by simp [h]
      rcases ih with ⟨h1, h2, h3⟩ | ⟨h1, h2, h3, h4⟩
      · left
        refine ⟨by simp [h1], ?_, ?_⟩
        · unfold Lib.indexByte; simp [h, h2, bef]
        · simp only [bef, aft, List.takeWhile_cons, List.dropWhile_cons, h', if_true, List.cons_append] at h3 ⊢
          rw [← h3]
      · right
        refine ⟨fun hm => by rcases List.mem_cons.1 hm with e | e; exact h e.symm; exact h1 e, ?_, ?_, ?_⟩
        · unfold Lib.indexByte; simp [h, h2]
        · simp only [bef, List.takeWhile_cons, h', if_true] at h3 ⊢; rw [h3]
        · simpa only [aft, List.dropWhile_cons, h', if_true] using h4
theorem bef_len (x : UInt8) (l : List UInt8) : (bef x l).length ≤ l.length := by
  unfold bef; induction l with
  | nil => simp
  | cons c l ih => simp only [List.takeWhile_cons]; split <;> simp <;> omega
theorem aft_len (x : UInt8) (l : List UInt8) : (aft x l).length ≤ l.length := by
  rcases ixb x l with ⟨_, _, h⟩ | ⟨_, _, _, h⟩
  · have := congrArg List.length h; simp at this; omega
  · rw [h]; simp

theorem index_c (l : List UInt8) (x : UInt8) (w : World) : Calls Tryz.prog 100 #[.string ⟨l.toArray⟩, .string ⟨#[x]⟩] w fun e w' => e = .returned (.int .i64 (Lib.indexByte l x)) ∧ w = w' :=
  (Tryz.stringslite_Index_one ⟨l.toArray⟩ x w).mono fun _ _ ⟨he, hw⟩ => ⟨he, hw.symm⟩

set_option maxHeartbeats 1000000 in
theorem cutl_c (l : List UInt8) (x : UInt8) (hl : l.length ≤ 9223372036854775806) (w : World) :
    Calls Tryz.prog 87 #[.string ⟨l.toArray⟩, .string ⟨#[x]⟩] w fun e w' => e = .returned (.tuple #[.string ⟨(bef x l).toArray⟩, .string ⟨(aft x l).toArray⟩, .bool (decide (x ∈ l))]) ∧ Qt w w' := by
  have hc := fun W => index_c l x W
  rcases ixb x l with ⟨h1, h2, h3⟩ | ⟨h1, h2, h3, h4⟩
  · have hlen := congrArg List.length h3
    simp only [List.length_append, List.length_cons] at hlen
    have ht : l.take (bef x l).length = bef x l := by
      have : (bef x l ++ x :: aft x l).take (bef x l).length = bef x l := List.take_left' rfl
      rwa [← h3] at this
    have hd : l.drop ((bef x l).length + 1) = aft x l := by
      have : ((bef x l ++ [x]) ++ aft x l).drop ((bef x l).length + 1) = aft x l := List.drop_left' (by simp)
      rwa [List.append_assoc, List.singleton_append, ← h3] at this
    obtain ⟨n, hn⟩ : ∃ n, n = (bef x l).length := ⟨_, rfl⟩
    rw [← hn] at ht hd hlen h2
    rw [h2] at hc
    have HT := Lib.hid ht
    have HD := Lib.hid hd
    have HC := Lib.hid hc
    have HM := Lib.hid (decide_eq_true h1)
    have hnl : n + 1 ≤ l.length := by omega
    have hnl' : (n : Int) + 1 ≤ (l.length : Int) := by omega
    have hnl2 : (n : Int) ≤ (l.length : Int) := by omega
    clear h1 h2 h3 ht hd hn hlen hc
    go_enter Tryz.func87, Tryz.ntmps87
    go_wp2_with (first | (go_at_call 100; refine (HC.out _).mono ?_; rintro e w' ⟨rfl, rfl⟩) | go_quiet (fail))
    go_ret3
    exact ⟨by rw [← HT.out, ← HD.out, HM.out]; rfl, _, rfl⟩
  · rw [h2] at hc
    have HC := Lib.hid hc
    have HB := Lib.hid h3
    have HA := Lib.hid h4
    have HM := Lib.hid (decide_eq_false h1)
    clear hc h1 h2 h3 h4
    go_enter Tryz.func87, Tryz.ntmps87
    go_wp2_with (first | (go_at_call 100; refine (HC.out _).mono ?_; rintro e w' ⟨rfl, rfl⟩) | go_quiet (fail))
    go_ret3
    exact ⟨by rw [HB.out, HA.out, HM.out]; rfl, Qt.refl _⟩
theorem cut_c (l : List UInt8) (x : UInt8) (hl : l.length ≤ 9223372036854775806) (w : World) :
    Calls Tryz.prog 72 #[.string ⟨l.toArray⟩, .string ⟨#[x]⟩] w fun e w' => e = .returned (.tuple #[.string ⟨(bef x l).toArray⟩, .string ⟨(aft x l).toArray⟩, .bool (decide (x ∈ l))]) ∧ Qt w w' := by
  go_enter Tryz.func72, Tryz.ntmps72
  go_wp2_with (go_at_call 87; refine (cutl_c l x hl _).mono ?_; rintro e w' ⟨rfl, n, rfl⟩)
  go_ret3
  exact ⟨rfl, n, rfl⟩

/-! ### The builder -/
theorem sizeB : (Tryz.prog.info? 78).map (·.size) = some 2 := by kernel_rfl
set_option maxHeartbeats 1000000 in
set_option maxRecDepth 100000 in
theorem copyCheck_used (b : Nat) (w : World) (h0 : w.cell? ⟨b, 0, none⟩ = some (.pointer (some ⟨b, 0, none⟩))) :
    Calls Tryz.prog 88 #[.pointer (some ⟨b, 0, none⟩)] w fun e w' => e = .returned (.tuple #[]) ∧ w' = w := by
  obtain ⟨j, hj, _⟩ := Option.map_eq_some_iff.1 sizeB
  go_enter Tryz.func88, Tryz.ntmps88
  go_wp2
  rw [Lib.run_neq_ptr_same w _ Tryz.underlying75 hj]
  go_wp2
  go_end0
  exact ⟨rfl, rfl⟩
theorem liesB : liesAt Tryz.prog Tryz.prog.depth 78 (2 / Tryz.prog.cellsOf 78) 0 78 1 = true := by kernel_rfl
set_option maxHeartbeats 1000000 in
set_option maxRecDepth 100000 in
theorem copyCheck_fresh (b : Nat) (w : World) (h0 : w.cell? ⟨b, 0, none⟩ = some (.pointer none)) (hsh : w.shape? b = some (78, 2)) (hfz : w.frozen? ⟨b, 0, none⟩ = false) :
    Calls Tryz.prog 88 #[.pointer (some ⟨b, 0, none⟩)] w fun e w' => e = .returned (.tuple #[]) ∧ w' = w.setCell ⟨b, 0, none⟩ (.pointer (some ⟨b, 0, none⟩)) := by
  obtain ⟨j, hj, hjs⟩ := Option.map_eq_some_iff.1 sizeB
  go_enter Tryz.func88, Tryz.ntmps88
  go_wp2
  rw [Lib.run_to_unsafe w ⟨b, 0, none⟩ Tryz.underlying75 Tryz.underlying119 hj (by rw [hjs]; decide) hsh (Nat.zero_lt_succ 1)]
  simp only [Result.andThen]
  rw [Oper.upon_value]
  go_wp2
  rw [run_callFunc_extern Tryz.func101 (by kernel_rfl) (by kernel_rfl) (by kernel_rfl) (e := Extern.AbiNoEscape.same) (by kernel_rfl)]
  rw [Lib.run_noEscape]
  simp only [Result.andThen]
  rw [Oper.upon_value]
  go_wp2
  rw [Lib.run_from_unsafe w ⟨b, 0, none⟩ Tryz.underlying119 Tryz.underlying75 hj hsh liesB]
  simp only [Result.andThen]
  rw [Oper.upon_value]
  go_wp2
  go_end0
  exact ⟨rfl, rfl⟩
theorem copyCheck_c (B b : Nat) (bs : List Value) (w : World) (h : Lib.IsBuilder 78 5 B b bs w) :
    Calls Tryz.prog 88 #[.pointer (some ⟨b, 0, none⟩)] w fun e w' => e = .returned (.tuple #[]) ∧ (Lib.BuilderAt 78 5 B b (.pointer (some ⟨b, 0, none⟩)) bs w' ∧ Below B w w') := by
  rcases h with h | h
  · refine (copyCheck_fresh b w h.cell0 h.shape h.frozen0).mono ?_
    rintro e w' ⟨rfl, rfl⟩
    exact ⟨rfl, h.used _, (Below.refl B w).setCell (p := ⟨b, 0, none⟩) h.1 _⟩
  · refine (copyCheck_used b w h.cell0).mono ?_
    rintro e w' ⟨rfl, rfl⟩
    exact ⟨rfl, h, Below.refl B _⟩
theorem infoByte : (Tryz.prog.info? 5).map (fun i => (i.zero, i.size, i.bytes)) = some (some (.int .u8 0), 1, 1) := by kernel_rfl
theorem neB5 : (78 : Nat) ≠ 5 := by decide

set_option maxHeartbeats 2000000 in
set_option maxRecDepth 100000 in
theorem write_c (B b : Nat) (bs : List Value) (s : ByteArray) (w : World) (h : Lib.IsBuilder 78 5 B b bs w) (hlen : bs.length + s.size ≤ 140737488355328) (hBw : B ≤ w.heap.size) :
    Calls Tryz.prog 73 #[.pointer (some ⟨b, 0, none⟩), .string s] w fun e w' => e = .returned (.tuple #[.int .i64 s.size, .nilIface]) ∧ (Lib.BuilderAt 78 5 B b (.pointer (some ⟨b, 0, none⟩)) (bs ++ Lib.strCells s) w' ∧ Below B w w') := by
  obtain ⟨i0, hi, hz0, hz1, hz2⟩ := info_parts infoByte
  go_enter Tryz.func73, Tryz.ntmps73
  go_wp2_with (go_at_call 88; refine (copyCheck_c B b bs _ h).mono ?_)
  rintro e w1 ⟨rfl, h1, hb1⟩
  obtain ⟨hB, v, hbk, hown, hne⟩ := h1
  have c0 : w1.cell? ⟨b, 0, none⟩ = some (.pointer (some ⟨b, 0, none⟩)) := by rw [Lib.cell_of_heap hbk]; rfl
  have c1 : w1.cell? ⟨b, 1, none⟩ = some v := by rw [Lib.cell_of_heap hbk]; rfl
  go_wp2_with (at_builtin; refine Lib.wpList_append_own_string _ rfl _ _ 76 9 rfl B 5 i0 Tryz.underlying76 Tryz.underlying9 hi hz0 hz1 hz2 _ _ _ rfl hown s rfl ?c3 ?c4 ?c5 ?_)
  case c3 => unfold maxLen; omega
  case c4 => omega
  case c5 => have := hb1.size; omega
  intro v' w2 hown' hgrow _
  have hlt : b < w1.heap.size := by
    rcases Nat.lt_or_ge b w1.heap.size with h' | h'
    · exact h'
    · simp [Array.getElem?_eq_none h'] at hbk
  have hb2 : w2.heap[b]? = some (.cells #[.pointer (some ⟨b, 0, none⟩), v] 78 (0, 0)) := by
    rw [hgrow.block b hlt (fun e => hne e.symm)]
    exact hbk
  have d0 : w2.cell? ⟨b, 0, none⟩ = some (.pointer (some ⟨b, 0, none⟩)) := by rw [Lib.cell_of_heap hb2]; rfl
  have d1 : w2.cell? ⟨b, 1, none⟩ = some v := by rw [Lib.cell_of_heap hb2]; rfl
  have f1 : w2.frozen? ⟨b, 1, none⟩ = false := Lib.frozen_of_heap hb2 1
  obtain ⟨ao, n', cap, rfl⟩ : ∃ ao n' cap, v' = .slice ao n' cap := by
    rcases hown'.2 with ⟨hv, _⟩ | ⟨g, cap, cur, hv, _⟩
    · exact ⟨_, _, _, hv⟩
    · exact ⟨_, _, _, hv⟩
  go_wp2
  go_ret2
  refine ⟨rfl, ?_, ?_⟩
  · exact Lib.BuilderAt.put (T := 78) (e := 5) hB hb2 (bs' := bs ++ Lib.strCells s) (by simpa [Lib.strCells_length] using hown') neB5
  · exact (hb1.grown hgrow (by have := hb1.size; omega) (fun k hk => (hown.lt k hk).1)).setCell (p := ⟨b, 1, none⟩) hB _
end Go.Proofs.YtkacjnifhmgeiaaGreatDoor

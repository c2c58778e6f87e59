/- strings.Cut at a byte; strings.Builder. · Signs that are taken: what they tell, said by plain functions. · Signs that are taken: the program's walk. -/
import Derived.Test.YtamdlihgecpbkaaGreatDoorEscF
import Derived.Lib.Builder
import Derived.Lib.Strings
import Derived.Lib.Slices
import Derived.Lib.Walk
import Derived.Lib.AppendStr
import Derived.Lib.UnsafeStr
import Derived.Laws.Runes
set_option maxRecDepth 100000
set_option maxHeartbeats 4000000
namespace Go.Proofs.YtamdlihgecpbkaaGreatDoor
open Go.RowKit
def bef (x : UInt8) (l : List UInt8) : List UInt8 := l.takeWhile (· != x)
def aft (x : UInt8) (l : List UInt8) : List UInt8 := (l.dropWhile (· != x)).drop 1
theorem ixb (x : UInt8) (l : List UInt8) : (x ∈ l ∧ Lib.indexByte l x = (bef x l).length ∧ l = bef x l ++ x :: aft x l) ∨ (x ∉ l ∧ Lib.indexByte l x = -1 ∧ bef x l = l ∧ aft x l = []) := by
 induction l with
 | nil => right; simp [Lib.indexByte, bef, aft]
 | cons c l ih =>
   by_cases h : c = x
   · subst h; left; simp [Lib.indexByte, bef, aft]
   · have h' : (c != x) = true := by simp [h]
     rcases ih with ⟨h1, h2, h3⟩ | ⟨h1, h2, h3, h4⟩
     · left; refine ⟨by simp [h1], ?_, ?_⟩
       · unfold Lib.indexByte; simp [h, h2, bef]
       · simp only [bef, aft, List.takeWhile_cons, List.dropWhile_cons, h', if_true, List.cons_append] at h3 ⊢; rw [← h3]
     · right; refine ⟨fun hm => by rcases List.mem_cons.1 hm with e | e; exact h e.symm; exact h1 e, ?_, ?_, ?_⟩
       · unfold Lib.indexByte; simp [h, h2]
       · simp only [bef, List.takeWhile_cons, h', if_true] at h3 ⊢; rw [h3]
       · simpa only [aft, List.dropWhile_cons, h', if_true] using h4
theorem bef_len (x : UInt8) (l : List UInt8) : (bef x l).length ≤ l.length := by
 unfold bef; induction l with
 | nil => simp
 | cons c l ih => simp only [List.takeWhile_cons]; split <;> simp <;> omega
theorem aft_len (x : UInt8) (l : List UInt8) : (aft x l).length ≤ l.length := by
 rcases ixb x l with ⟨_, _, h⟩ | ⟨_, _, _, h⟩
 · have := congrArg List.length h; simp at this; omega
 · rw [h]; simp
theorem index_c (l : List UInt8) (x : UInt8) (w : World) : Calls Tryz.prog 135 #[.string ⟨l.toArray⟩, .string ⟨#[x]⟩] w fun e w' => e = .returned (.int .i64 (Lib.indexByte l x)) ∧ w = w' :=
 (Tryz.stringslite_Index_one ⟨l.toArray⟩ x w).mono fun _ _ ⟨he, hw⟩ => ⟨he, hw.symm⟩
theorem cutl_c (l : List UInt8) (x : UInt8) (hl : l.length ≤ 9223372036854775806) (w : World) :
 Calls Tryz.prog 140 #[.string ⟨l.toArray⟩, .string ⟨#[x]⟩] w fun e w' => e = .returned (.tuple #[.string ⟨(bef x l).toArray⟩, .string ⟨(aft x l).toArray⟩, .bool (decide (x ∈ l))]) ∧ Qt w w' := by
 have hc := fun W => index_c l x W
 rcases ixb x l with ⟨h1, h2, h3⟩ | ⟨h1, h2, h3, h4⟩
 · have hlen := congrArg List.length h3; simp only [List.length_append, List.length_cons] at hlen; have ht : l.take (bef x l).length = bef x l := by
    have : (bef x l ++ x :: aft x l).take (bef x l).length = bef x l := List.take_left' rfl; rwa [← h3] at this
   have hd : l.drop ((bef x l).length + 1) = aft x l := by
    have : ((bef x l ++ [x]) ++ aft x l).drop ((bef x l).length + 1) = aft x l := List.drop_left' (by simp); rwa [List.append_assoc, List.singleton_append, ← h3] at this
   obtain ⟨n, hn⟩ : ∃ n, n = (bef x l).length := ⟨_, rfl⟩; rw [← hn] at ht hd hlen h2; rw [h2] at hc; have HT := Lib.hid ht; have HD := Lib.hid hd; have HC := Lib.hid hc; have HM := Lib.hid (decide_eq_true h1); have hnl : n + 1 ≤ l.length := by omega
   have hnl' : (n : Int) + 1 ≤ (l.length : Int) := by omega
   have hnl2 : (n : Int) ≤ (l.length : Int) := by omega
   clear h1 h2 h3 ht hd hn hlen hc; go_enter Tryz.func140, Tryz.ntmps140; go_wp2_with (first | (go_at_call 135; refine (HC.out _).mono ?_; rintro e w' ⟨rfl, rfl⟩) | go_quiet (fail))
   go_ret3
   exact ⟨by rw [← HT.out, ← HD.out, HM.out]; rfl, _, rfl⟩
 · rw [h2] at hc; have HC := Lib.hid hc; have HB := Lib.hid h3; have HA := Lib.hid h4; have HM := Lib.hid (decide_eq_false h1); clear hc h1 h2 h3 h4; go_enter Tryz.func140, Tryz.ntmps140; go_wp2_with (first | (go_at_call 135; refine (HC.out _).mono ?_; rintro e w' ⟨rfl, rfl⟩) | go_quiet (fail))
   go_ret3
   exact ⟨by rw [HB.out, HA.out, HM.out]; rfl, Qt.refl _⟩
theorem cut_c (l : List UInt8) (x : UInt8) (hl : l.length ≤ 9223372036854775806) (w : World) :
 Calls Tryz.prog 108 #[.string ⟨l.toArray⟩, .string ⟨#[x]⟩] w fun e w' => e = .returned (.tuple #[.string ⟨(bef x l).toArray⟩, .string ⟨(aft x l).toArray⟩, .bool (decide (x ∈ l))]) ∧ Qt w w' := by
 go_enter Tryz.func108, Tryz.ntmps108; go_wp2_with (go_at_call 140; refine (cutl_c l x hl _).mono ?_; rintro e w' ⟨rfl, n, rfl⟩)
 go_ret3
 exact ⟨rfl, n, rfl⟩
/-! ### The builder -/
theorem sizeB : (Tryz.prog.info? 62).map (·.size) = some 2 := by kernel_rfl
theorem copyCheck_used (b : Nat) (w : World) (h0 : w.cell? ⟨b, 0, none⟩ = some (.pointer (some ⟨b, 0, none⟩))) :
 Calls Tryz.prog 113 #[.pointer (some ⟨b, 0, none⟩)] w fun e w' => e = .returned (.tuple #[]) ∧ w' = w := by
 obtain ⟨j, hj, _⟩ := Option.map_eq_some_iff.1 sizeB; go_enter Tryz.func113, Tryz.ntmps113; go_wp2; rw [Lib.run_neq_ptr_same w _ Tryz.underlying59 hj]; go_wp2; go_end0; exact ⟨rfl, rfl⟩
theorem liesB : liesAt Tryz.prog Tryz.prog.depth 62 (2 / Tryz.prog.cellsOf 62) 0 62 1 = true := by kernel_rfl
theorem copyCheck_fresh (b : Nat) (w : World) (h0 : w.cell? ⟨b, 0, none⟩ = some (.pointer none)) (hsh : w.shape? b = some (62, 2)) (hfz : w.frozen? ⟨b, 0, none⟩ = false) :
 Calls Tryz.prog 113 #[.pointer (some ⟨b, 0, none⟩)] w fun e w' => e = .returned (.tuple #[]) ∧ w' = w.setCell ⟨b, 0, none⟩ (.pointer (some ⟨b, 0, none⟩)) := by
 obtain ⟨j, hj, hjs⟩ := Option.map_eq_some_iff.1 sizeB; go_enter Tryz.func113, Tryz.ntmps113; go_wp2; rw [Lib.run_to_unsafe w ⟨b, 0, none⟩ Tryz.underlying59 Tryz.underlying171 hj (by rw [hjs]; decide) hsh (Nat.zero_lt_succ 1)]; simp only [Result.andThen]; rw [Oper.upon_value]; go_wp2; rw [run_callFunc_extern Tryz.func146 (by kernel_rfl) (by kernel_rfl) (by kernel_rfl) (e := Extern.AbiNoEscape.same) (by kernel_rfl)]; rw [Lib.run_noEscape]; simp only [Result.andThen]; rw [Oper.upon_value]; go_wp2; rw [Lib.run_from_unsafe w ⟨b, 0, none⟩ Tryz.underlying171 Tryz.underlying59 hj hsh liesB]; simp only [Result.andThen]; rw [Oper.upon_value]; go_wp2; go_end0; exact ⟨rfl, rfl⟩
theorem copyCheck_c (B b : Nat) (bs : List Value) (w : World) (h : Lib.IsBuilder 62 5 B b bs w) :
 Calls Tryz.prog 113 #[.pointer (some ⟨b, 0, none⟩)] w fun e w' => e = .returned (.tuple #[]) ∧ (Lib.BuilderAt 62 5 B b (.pointer (some ⟨b, 0, none⟩)) bs w' ∧ Below B w w') := by
 rcases h with h | h
 · refine (copyCheck_fresh b w h.cell0 h.shape h.frozen0).mono ?_; rintro e w' ⟨rfl, rfl⟩; exact ⟨rfl, h.used _, (Below.refl B w).setCell (p := ⟨b, 0, none⟩) h.1 _⟩
 · refine (copyCheck_used b w h.cell0).mono ?_; rintro e w' ⟨rfl, rfl⟩; exact ⟨rfl, h, Below.refl B _⟩
theorem infoByte : (Tryz.prog.info? 5).map (fun i => (i.zero, i.size, i.bytes)) = some (some (.int .u8 0), 1, 1) := by kernel_rfl
theorem neB5 : (62 : Nat) ≠ 5 := by decide
theorem write_c (B b : Nat) (bs : List Value) (s : ByteArray) (w : World) (h : Lib.IsBuilder 62 5 B b bs w) (hlen : bs.length + s.size ≤ 140737488355328) (hBw : B ≤ w.heap.size) :
 Calls Tryz.prog 75 #[.pointer (some ⟨b, 0, none⟩), .string s] w fun e w' => e = .returned (.tuple #[.int .i64 s.size, .nilIface]) ∧ (Lib.BuilderAt 62 5 B b (.pointer (some ⟨b, 0, none⟩)) (bs ++ Lib.strCells s) w' ∧ Below B w w') := by
 obtain ⟨i0, hi, hz0, hz1, hz2⟩ := info_parts infoByte; go_enter Tryz.func75, Tryz.ntmps75; go_wp2_with (go_at_call 113; refine (copyCheck_c B b bs _ h).mono ?_); rintro e w1 ⟨rfl, h1, hb1⟩; obtain ⟨hB, v, hbk, hown, hne⟩ := h1; have c0 : w1.cell? ⟨b, 0, none⟩ = some (.pointer (some ⟨b, 0, none⟩)) := by rw [Lib.cell_of_heap hbk]; rfl
 have c1 : w1.cell? ⟨b, 1, none⟩ = some v := by rw [Lib.cell_of_heap hbk]; rfl
 go_wp2_with (at_builtin; refine Lib.wpList_append_own_string _ rfl _ _ 60 9 rfl B 5 i0 Tryz.underlying60 Tryz.underlying9 hi hz0 hz1 hz2 _ _ _ rfl hown s rfl ?c3 ?c4 ?c5 ?_); case c3 => unfold maxLen; omega
 case c4 => omega
 case c5 => have := hb1.size; omega
 intro v' w2 hown' hgrow _; have hlt : b < w1.heap.size := by
  rcases Nat.lt_or_ge b w1.heap.size with h' | h'
  · exact h'
  · simp [Array.getElem?_eq_none h'] at hbk
 have hb2 : w2.heap[b]? = some (.cells #[.pointer (some ⟨b, 0, none⟩), v] 62 (0, 0)) := by
  rw [hgrow.block b hlt (fun e => hne e.symm)]; exact hbk
 have d0 : w2.cell? ⟨b, 0, none⟩ = some (.pointer (some ⟨b, 0, none⟩)) := by rw [Lib.cell_of_heap hb2]; rfl
 have d1 : w2.cell? ⟨b, 1, none⟩ = some v := by rw [Lib.cell_of_heap hb2]; rfl
 have f1 : w2.frozen? ⟨b, 1, none⟩ = false := Lib.frozen_of_heap hb2 1; obtain ⟨ao, n', cap, rfl⟩ : ∃ ao n' cap, v' = .slice ao n' cap := by
  rcases hown'.2 with ⟨hv, _⟩ | ⟨g, cap, cur, hv, _⟩
  · exact ⟨_, _, _, hv⟩
  · exact ⟨_, _, _, hv⟩
 go_wp2; go_ret2; refine ⟨rfl, ?_, ?_⟩
 · exact Lib.BuilderAt.put (T := 62) (e := 5) hB hb2 (bs' := bs ++ Lib.strCells s) (by simpa [Lib.strCells_length] using hown') neB5
 · exact (hb1.grown hgrow (by have := hb1.size; omega) (fun k hk => (hown.lt k hk).1)).setCell (p := ⟨b, 1, none⟩) hB _
def pre (p t : List UInt8) : Bool := p.isPrefixOf t
def nAmp : List UInt8 := [38, 97, 109, 112, 59]
def nLt : List UInt8 := [38, 108, 116, 59]
def nGt : List UInt8 := [38, 103, 116, 59]
def nQuot : List UInt8 := [38, 113, 117, 111, 116, 59]
def nApos : List UInt8 := [38, 97, 112, 111, 115, 59]
def nmd (t : List UInt8) : List UInt8 × Nat :=
 if pre nAmp t then ([38], 5) else if pre nLt t then ([60], 4) else if pre nGt t then ([62], 4) else if pre nQuot t then ([34], 6) else if pre nApos t then ([39], 6) else ([], 0)
def ndg (b : Int) (r : List UInt8) : Nat := (r.takeWhile (dig b)).length
def nbB (b : Int) (most : Nat) (r : List UInt8) : Bool := decide (ndg b r = 0) || decide (most < ndg b r) || decide (r[ndg b r]? ≠ some 59)
def nbF (b : Int) (f most : Nat) (r : List UInt8) : Int × Nat := if nbB b most r then (0, 0) else (Nv b (r.take (ndg b r)), f + ndg b r + 1)
def nbr (t : List UInt8) : Int × Nat := if pre [38, 35, 120] t then nbF 16 3 6 (t.drop 3) else if pre [38, 35] t then nbF 10 2 7 (t.drop 2) else (0, 0)
def scl (n : Int) : Bool := decide (0 < n) && decide (n ≤ 1114111) && (decide (n < 55296) || decide (57343 < n))
def rowL (n : Int) : List UInt8 := (Utf8.encode n).data.toList
def sgn (t : List UInt8) : List UInt8 × Nat × Bool :=
 if 0 < (nmd t).2 then ((nmd t).1, (nmd t).2, true) else if (nbr t).2 = 0 then ([38], 0, false) else if scl (nbr t).1 then (rowL (nbr t).1, (nbr t).2, true) else ([239, 191, 189], (nbr t).2, false)
theorem pre_len {p t : List UInt8} (h : pre p t = true) : p.length ≤ t.length := (List.isPrefixOf_iff_prefix.1 h).length_le
theorem pre_iff (p t : List UInt8) : pre p t = (decide (p.length ≤ t.length) && (t.take p.length == p)) := by
 rw [Bool.eq_iff_iff]; simp only [pre, List.isPrefixOf_iff_prefix, Bool.and_eq_true, decide_eq_true_eq, beq_iff_eq]; constructor
 · intro h; exact ⟨h.length_le, List.prefix_iff_eq_take.1 h |>.symm⟩
 · rintro ⟨_, h⟩; rw [List.prefix_iff_eq_take]; exact h.symm
theorem mem_tw {α : Type} {p : α → Bool} {l : List α} {c : α} (h : c ∈ l.takeWhile p) : p c = true := by
 induction l with
 | nil => simp at h
 | cons a l ih =>
   rw [List.takeWhile_cons] at h; split at h
   · rcases List.mem_cons.1 h with rfl | h
     · assumption
     · exact ih h
   · simp at h
theorem ndg_le (b : Int) (r : List UInt8) : ndg b r ≤ r.length := (List.takeWhile_prefix _).length_le
theorem ndg_take (b : Int) (r : List UInt8) : r.take (ndg b r) = r.takeWhile (dig b) := by
 have := (List.prefix_iff_eq_take.1 (List.takeWhile_prefix (l := r) (dig b))); rw [ndg]; exact this.symm
theorem ndg_all (b : Int) (r : List UInt8) : (r.take (ndg b r)).all (dig b) = true := by
 rw [ndg_take, List.all_eq_true]; exact fun c hc => mem_tw hc
theorem rowL_len (n : Int) : (rowL n).length ≤ 4 := by
 unfold rowL Utf8.encode; simp only []; (repeat' split) <;> simp
theorem nmd_len (t : List UInt8) : (nmd t).1.length ≤ 1 ∧ (nmd t).2 ≤ t.length := by
 unfold nmd; split
 · rename_i h; exact ⟨by simp, pre_len h⟩
 split
 · rename_i h; exact ⟨by simp, pre_len h⟩
 split
 · rename_i h; exact ⟨by simp, pre_len h⟩
 split
 · rename_i h; exact ⟨by simp, pre_len h⟩
 split
 · rename_i h; exact ⟨by simp, pre_len h⟩
 · simp
theorem nbF_len (b : Int) (f most : Nat) (r : List UInt8) : (nbF b f most r).2 = 0 ∨ (nbF b f most r).2 ≤ f + r.length := by
 unfold nbF; by_cases h : nbB b most r = true
 · rw [if_pos h]; left; rfl
 · rw [if_neg h]; right; have h2 := ndg_le b r; simp only [nbB, Bool.or_eq_true, decide_eq_true_eq, not_or] at h; rcases Nat.lt_or_ge (ndg b r) r.length with h3 | h3
   · simp only []; omega
   · have := h.2; rw [List.getElem?_eq_none h3] at this; simp at this
theorem nbr_len (t : List UInt8) : (nbr t).2 ≤ t.length := by
 unfold nbr; split
 · rename_i h; have h1 := pre_len h; have h2 := nbF_len 16 3 6 (t.drop 3); simp only [List.length_cons, List.length_nil, List.length_drop] at h1 h2; omega
 split
 · rename_i h; have h1 := pre_len h; have h2 := nbF_len 10 2 7 (t.drop 2); simp only [List.length_cons, List.length_nil, List.length_drop] at h1 h2; omega
 · simp
theorem sgn_len (t : List UInt8) : (sgn t).1.length ≤ 4 ∧ (sgn t).2.1 ≤ t.length := by
 have h1 := nmd_len t; have h2 := nbr_len t; have h3 := rowL_len (nbr t).1; unfold sgn; split
 · exact ⟨by simp only []; omega, h1.2⟩
 split
 · simp
 split
 · exact ⟨h3, h2⟩
 · exact ⟨by simp, h2⟩
def TkF : Nat → List UInt8 → List UInt8 × Bool
 | 0, _ => ([], true)
 | _ + 1, [] => ([], true)
 | k + 1, c :: r => if c = 38 then ((sgn (38 :: r)).1 ++ (TkF k (r.drop ((sgn (38 :: r)).2.1 - 1))).1, (sgn (38 :: r)).2.2 && (TkF k (r.drop ((sgn (38 :: r)).2.1 - 1))).2) else (c :: (TkF k r).1, (TkF k r).2)
def Tk (l : List UInt8) : List UInt8 × Bool := TkF l.length l
theorem TkF_two (k : Nat) : ∀ (j : Nat) (l : List UInt8), l.length ≤ k → l.length ≤ j → TkF k l = TkF j l := by
 induction k with
 | zero =>
   intro j l h _; obtain rfl := List.eq_nil_of_length_eq_zero (Nat.le_zero.1 h); cases j <;> rfl
 | succ k ih =>
   intro j l h h'; cases l with
   | nil => cases j <;> rfl
   | cons c r =>
     cases j with
     | zero => simp at h'
     | succ j =>
       simp only [List.length_cons, Nat.add_le_add_iff_right] at h h'; unfold TkF; rw [ih j r h h', ih j (r.drop ((sgn (38 :: r)).2.1 - 1)) (by simp; omega) (by simp; omega)]
theorem TkF_eq (k : Nat) (l : List UInt8) (h : l.length ≤ k) : TkF k l = Tk l := TkF_two k _ l h (Nat.le_refl _)
theorem Tk_nil : Tk [] = ([], true) := rfl
theorem Tk_plain (c : UInt8) (r : List UInt8) (h : c ≠ 38) : Tk (c :: r) = (c :: (Tk r).1, (Tk r).2) := by
 rw [Tk, List.length_cons, TkF, if_neg h]; rfl
theorem Tk_amp (r : List UInt8) : Tk (38 :: r) = ((sgn (38 :: r)).1 ++ (Tk (r.drop ((sgn (38 :: r)).2.1 - 1))).1, (sgn (38 :: r)).2.2 && (Tk (r.drop ((sgn (38 :: r)).2.1 - 1))).2) := by
 rw [Tk, List.length_cons, TkF, if_pos rfl, TkF_eq _ _ (by simp)]
theorem Tk_app (p r : List UInt8) (h : 38 ∉ p) : Tk (p ++ r) = (p ++ (Tk r).1, (Tk r).2) := by
 induction p with
 | nil => rfl
 | cons c p ih =>
   simp only [List.mem_cons, not_or] at h; rw [List.cons_append, Tk_plain _ _ (fun e => h.1 e.symm), ih h.2]; rfl
theorem Tk_none (l : List UInt8) (h : 38 ∉ l) : Tk l = (l, true) := by
 have := Tk_app l [] h; rw [List.append_nil] at this; rw [this]; simp [Tk_nil]
theorem bef_not (x : UInt8) (l : List UInt8) : x ∉ bef x l := by
 intro h; have := mem_tw h; simp at this
theorem Tk_cut (l : List UInt8) (h : 38 ∈ l) : Tk l = (bef 38 l ++ (Tk (38 :: aft 38 l)).1, (Tk (38 :: aft 38 l)).2) := by
 rcases ixb 38 l with ⟨_, _, h3⟩ | ⟨h1, _⟩
 · conv => lhs; rw [h3]
   exact Tk_app _ _ (bef_not 38 l)
 · exact absurd h h1
theorem Tk_len (k : Nat) : ∀ l : List UInt8, l.length ≤ k → (Tk l).1.length ≤ 4 * l.length := by
 induction k with
 | zero =>
   intro l h; obtain rfl := List.eq_nil_of_length_eq_zero (Nat.le_zero.1 h); simp [Tk_nil]
 | succ k ih =>
   intro l h; cases l with
   | nil => simp [Tk_nil]
   | cons c r =>
     simp only [List.length_cons, Nat.add_le_add_iff_right] at h; by_cases hc : c = 38
     · subst hc; rw [Tk_amp]; have h1 := (sgn_len (38 :: r)).1; have h2 := ih (r.drop ((sgn (38 :: r)).2.1 - 1)) (by simp; omega); simp only [List.length_append, List.length_drop, List.length_cons] at *; omega
     · rw [Tk_plain _ _ hc]; have := ih r h; simp only [List.length_cons]; omega
theorem hasPrefix_c (t p : List UInt8) (w : World) : Calls Tryz.prog 175 #[.string ⟨t.toArray⟩, .string ⟨p.toArray⟩] w fun e w' => e = .returned (.bool (pre p t)) ∧ w = w' :=
 (Tryz.strings_HasPrefix ⟨t.toArray⟩ ⟨p.toArray⟩ w).mono fun _ _ ⟨he, hw⟩ => ⟨he, hw.symm⟩
theorem named_c (t : List UInt8) (w : World) :
 Calls Tryz.prog 141 #[.string ⟨t.toArray⟩] w fun e w' => e = .returned (.tuple #[.string ⟨(nmd t).1.toArray⟩, .int .i64 (nmd t).2]) ∧ Bl w w' := by
 have h1 := fun p W => hasPrefix_c t p W
 have H1 := Lib.hid h1; clear h1; go_enter Tryz.func141, Tryz.ntmps141; go_wp2; refine wp_loop_rounds 6 ?_; repeat any_goals (rw [rounds_succ]; go_wp2_with (first | (go_at_call 175; refine (H1.out _ _).mono ?_; rintro e w' ⟨rfl, rfl⟩) | go_quiet (fail)))
 all_goals
  go_ret2; exact ⟨by simp [nmd, nAmp, nLt, nGt, nQuot, nApos, *], by repeat (first | exact Bl.refl _ | refine Bl.drewN ?_ _ | refine Bl.drew ?_ | refine Bl.alloc ?_ _)⟩
theorem scalar_c (n : Int) (w : World) :
 Calls Tryz.prog 143 #[.int .i64 n] w fun e w' => e = .returned (.bool (scl n)) ∧ w = w' := by
 go_enter Tryz.func143, Tryz.ntmps143; go_wp2; all_goals
  go_ret; exact ⟨ret_bool (by simp [scl, *] <;> omega), rfl⟩
def ES (w : World) : Prop := ∃ te pe, 1 < w.heap.size ∧ w.cell? ⟨1, 0, none⟩ = some (.iface te pe)
theorem ES.of_bl {w w' : World} (h : ES w) (hb : Bl w w') : ES w' := by
 obtain ⟨te, pe, h1, h2⟩ := h; exact ⟨te, pe, Nat.lt_of_lt_of_le h1 (Below.size hb), (hb.cells.1 1 0 h1).trans h2⟩
theorem iparse_c (b bits : Int) (l : List UInt8) (hb : b = 10 ∨ b = 16) (hx : bits = 8 ∧ l.length ≤ 1 ∨ bits = 32 ∧ l.length ≤ 7) (hne : 0 < l.length) (w : World) :
 Calls Tryz.prog 195 #[.string ⟨l.toArray⟩, .int .i64 b, .int .i64 bits] w fun e w' => e = .returned (IP b l) ∧ Bl w w' := by
 rcases hb with rfl | rfl
 · exact iparse10 bits l hx hne w
 · exact iparse16 bits l hx hne w
theorem pu_yes (b bits : Int) (l : List UInt8) (hb : b = 10 ∨ b = 16) (hx : bits = 8 ∧ l.length ≤ 1 ∨ bits = 32 ∧ l.length ≤ 7) (hne : 0 < l.length) (hd : l.all (dig b) = true) (w : World) :
 Calls Tryz.prog 177 #[.string ⟨l.toArray⟩, .int .i64 b, .int .i64 bits] w fun e w' => e = .returned (.tuple #[.int .u64 (Nv b l), .nilIface]) ∧ Bl w w' := by
 have h := fun W => iparse_c b bits l hb hx hne W
 rw [IP_yes hd] at h; have H := Lib.hid h; clear h hd hb hx; go_enter Tryz.func177, Tryz.ntmps177; go_wp2_with (go_at_call 195; (with_reducible refine (H.out _).mono ?_); rintro e w' ⟨rfl, hb'⟩); go_ret2; exact ⟨rfl, hb'⟩
theorem pu_no (b bits : Int) (l : List UInt8) (hb : b = 10 ∨ b = 16) (hx : bits = 8 ∧ l.length ≤ 1 ∨ bits = 32 ∧ l.length ≤ 7) (hne : 0 < l.length) (hd : l.all (dig b) = false) (w : World) (hE : ES w) :
 Calls Tryz.prog 177 #[.string ⟨l.toArray⟩, .int .i64 b, .int .i64 bits] w fun e w' => ∃ N, e = .returned (.tuple #[.int .u64 0, .iface 231 (.pointer (some ⟨N, 0, none⟩))]) ∧ Bl w w' := by
 have h := fun W => iparse_c b bits l hb hx hne W
 rw [IP_no hd] at h; have H := Lib.hid h; have hlim : l.length ≤ 281474976710656 := by omega
 clear h hd hb hx; go_enter Tryz.func177, Tryz.ntmps177; go_wp2_with (first | (go_at_call 195; (with_reducible refine (H.out _).mono ?_); rintro e w' ⟨rfl, hb'⟩; obtain ⟨te, pe, h1, h2⟩ := hE.of_bl hb'; have H2 := Lib.hid h2; clear h2) | (go_at_call 196; refine (Tryz.strconv_toError_syntax _ _ _ _ (.iface te pe) _ (by simpa [ByteArray.size] using hlim) H2.out (Or.inr ⟨te, pe, rfl⟩)).mono ?_; rintro e w'' ⟨N, rfl, -, -, hb''⟩)); go_ret2; exact ⟨N, rfl, hb'.trans hb''⟩
theorem ndg_stop (b : Int) (r : List UInt8) : ∀ k : Nat, k ≤ r.length → (r.take k).all (dig b) = true → (∀ h : k < r.length, dig b r[k] = false) → ndg b r = k := by
 unfold ndg; induction r with
 | nil => intro k hk _ _; simp at hk; subst hk; rfl
 | cons c r ih =>
   intro k hk ha hs; cases k with
   | zero =>
     have := hs (by simp); simp only [List.getElem_cons_zero] at this; simp [this]
   | succ k =>
     simp only [List.take_succ_cons, List.all_cons, Bool.and_eq_true] at ha; rw [List.takeWhile_cons, if_pos ha.1, List.length_cons, ih k (by simpa using hk) ha.2 (fun h => by have := hs (by simpa using h); simpa using this)]
theorem digits_c (b : Int) (r : List UInt8) (hb : b = 10 ∨ b = 16) (hl : r.length ≤ 4611686018427387904) (w : World) (hE : ES w) :
 Calls Tryz.prog 176 #[.string ⟨r.toArray⟩, .int .i64 b] w fun e w' => e = .returned (.int .i64 (ndg b r)) ∧ Bl w w' := by
 have HB := Lib.hid hb; clear hb; go_enter Tryz.func176, Tryz.ntmps176; go_wp2; go_loopw [10] (fun i wr => ∃ k : Nat, k ≤ r.length ∧ i = .int .i64 k ∧ (r.take k).all (dig b) = true ∧ Bl w wr) (fun i _ => r.length - (intOf i).toNat); case atStart => exact ⟨0, Nat.zero_le _, rfl, rfl, Bl.refl _⟩
 case round =>
  obtain ⟨k, hk, rfl, ha, hbl⟩ := hrel; by_cases hlt : k < r.length
  · have HT := Lib.hid (take_snoc r k hlt); have H1 := Lib.hid (take_one r k hlt); have HA := Lib.hid ha; have HE := Lib.hid (hE.of_bl hbl); have hlt2 : (k : Int) + 1 ≤ r.length := by omega
    have hlt3 : k + 1 ≤ r.length := by omega
    have HST := Lib.hid (ndg_stop b r k hk ha); clear ha; cases hd : dig b r[k]
    · have HD := Lib.hid hd; have HP := Lib.hid (fun W hW => pu_no b 8 (List.take 1 (List.drop k r)) HB.out (Or.inl ⟨rfl, by rw [H1.out]; simp⟩) (by rw [H1.out]; simp) (by rw [H1.out]; simp [HD.out]) W hW); clear hd; go_wp2_with (go_at_call 177; (with_reducible refine (HP.out _ HE.out).mono ?_); rintro e w' ⟨N, rfl, hb'⟩); go_ret; exact ⟨ret_int (by rw [HST.out (fun _ => HD.out)]), hbl.trans hb'⟩
    · have HD := Lib.hid hd; have HP := Lib.hid (fun W => pu_yes b 8 (List.take 1 (List.drop k r)) HB.out (Or.inl ⟨rfl, by rw [H1.out]; simp⟩) (by rw [H1.out]; simp) (by rw [H1.out]; simp [HD.out]) W); clear hd; go_wp2_with (go_at_call 177; (with_reducible refine (HP.out _).mono ?_); rintro e w' ⟨rfl, hb'⟩); go_roundw; case rel => exact ⟨k + 1, by omega, by go_num, by rw [HT.out, all_snoc, HA.out, HD.out]; rfl, hbl.trans hb'⟩
      case measure => simp [intOf]; omega
  · have HST := Lib.hid (ndg_stop b r k hk ha (fun h => absurd h hlt)); clear ha; have hkl : k = r.length := by omega
    have HK := Lib.hid hkl; clear hkl; go_wp2; go_ret; exact ⟨ret_int (by rw [HST.out, HK.out]), hbl⟩
theorem numbered_c (t : List UInt8) (hl : t.length ≤ 4611686018427387904) (w : World) (hE : ES w) :
 Calls Tryz.prog 142 #[.string ⟨t.toArray⟩] w fun e w' => e = .returned (.tuple #[.int .i64 (nbr t).1, .int .i64 (nbr t).2]) ∧ Bl w w' := by
 have hP := fun p W => hasPrefix_c t p W
 have HP := Lib.hid hP; clear hP; cases h1 : pre [38, 35, 120] t
 · cases h2 : pre [38, 35] t
   · have HN := Lib.hid (show nbr t = (0, 0) by unfold nbr; rw [h1, h2]; rfl); go_enter Tryz.func142, Tryz.ntmps142; go_wp2_with (go_at_call 175; refine (HP.out _ _).mono ?_; rintro e w' ⟨rfl, rfl⟩); go_ret2; exact ⟨by rw [HN.out]; rfl, Bl.refl _⟩
   · have hpl := pre_len h2; simp only [List.length_cons, List.length_nil] at hpl; have hf : (2 : Int) ≤ t.length := by omega
     have hf2 : 2 ≤ t.length := by omega
     have HN := Lib.hid (show nbr t = nbF 10 2 7 (t.drop 2) by unfold nbr; rw [h1, h2]; rfl); have hdl := ndg_le 10 (t.drop 2); have hall := ndg_all 10 (t.drop 2); have cD := fun W hW => digits_c 10 (t.drop 2) (by omega) (by simp; omega) W hW
     obtain ⟨d, hd⟩ : ∃ d, d = ndg 10 (t.drop 2) := ⟨_, rfl⟩; rw [← hd] at hdl hall cD; have HDD := Lib.hid hd; have HDL := Lib.hid hall; have CD := Lib.hid cD; simp only [List.length_drop] at hdl; clear hd hall cD; have bad : (d = 0 ∨ 7 < d ∨ (t.drop 2)[d]? ≠ some 59) → nbF 10 2 7 (t.drop 2) = (0, 0) := by
      intro h; unfold nbF; rw [if_pos]; simp only [nbB, ← HDD.out, Bool.or_eq_true, decide_eq_true_eq]; rcases h with h | h | h
      · exact Or.inl (Or.inl h)
      · exact Or.inl (Or.inr h)
      · exact Or.inr h
     have good : ¬ (d = 0 ∨ 7 < d ∨ (t.drop 2)[d]? ≠ some 59) → nbF 10 2 7 (t.drop 2) = (Nv 10 ((t.drop 2).take d), 2 + d + 1) := by
      intro h; unfold nbF; rw [if_neg, ← HDD.out]; simp only [nbB, ← HDD.out, Bool.or_eq_true, decide_eq_true_eq]; rintro ((h' | h') | h')
      · exact h (Or.inl h')
      · exact h (Or.inr (Or.inl h'))
      · exact h (Or.inr (Or.inr h'))
     have BAD := Lib.hid bad; have GOOD := Lib.hid good; clear bad good; cases h0 : ((d : Int) == 0)
     rotate_left
     · have H0 := Lib.hid (eq_of_beq h0); go_enter Tryz.func142, Tryz.ntmps142; go_wp2_with (first | (go_at_call 175; refine (HP.out _ _).mono ?_; rintro e w' ⟨rfl, rfl⟩) | (go_at_call 176; (with_reducible refine (CD.out _ hE).mono ?_); rintro e w' ⟨rfl, hb'⟩)); go_ret2; exact ⟨by rw [HN.out, BAD.out (Or.inl (by have := H0.out; omega))]; rfl, hb'⟩
     have H0 := Lib.hid (ne_of_beq_false h0); by_cases hm : 7 < d
     · have hm' : (7 : Int) < d := by omega
       go_enter Tryz.func142, Tryz.ntmps142; go_wp2_with (first | (go_at_call 175; refine (HP.out _ _).mono ?_; rintro e w' ⟨rfl, rfl⟩) | (go_at_call 176; (with_reducible refine (CD.out _ hE).mono ?_); rintro e w' ⟨rfl, hb'⟩)); go_ret2; exact ⟨by rw [HN.out, BAD.out (Or.inr (Or.inl hm))]; rfl, hb'⟩
     have hm' : ¬ (7 : Int) < d := by omega
     cases he : ((d : Int) == ((t.length - 2 : Nat) : Int))
     rotate_left
     · have H1 := Lib.hid (eq_of_beq he); go_enter Tryz.func142, Tryz.ntmps142; go_wp2_with (first | (go_at_call 175; refine (HP.out _ _).mono ?_; rintro e w' ⟨rfl, rfl⟩) | (go_at_call 176; (with_reducible refine (CD.out _ hE).mono ?_); rintro e w' ⟨rfl, hb'⟩)); go_ret2; exact ⟨by rw [HN.out, BAD.out (Or.inr (Or.inr (by rw [List.getElem?_eq_none (by have := H1.out; simp; omega)]; simp)))]; rfl, hb'⟩
     have hne := ne_of_beq_false he; have hlt : d < t.length - 2 := by omega
     have hix : 2 + d < t.length := by omega
     clear hne; have hlt' : (d : Int) < ((t.length - 2 : Nat) : Int) := by omega
     have hle' : (d : Int) ≤ ((t.length - 2 : Nat) : Int) := by omega
     have hle : d ≤ t.length - 2 := by omega
     have hd0 : 0 < d := by have := H0.out; omega
     have hbd := Nv_bd 10 (by omega) (List.take d (List.drop 2 t)) HDL.out (by simp; omega); have PU := Lib.hid (fun W => pu_yes 10 32 (List.take d (List.drop 2 t)) (by omega) (Or.inr ⟨rfl, by simp; omega⟩) (by simp; omega) HDL.out W); have hgd : (t.drop 2)[d]? = some (t[2 + d]'hix) := by rw [List.getElem?_drop]; exact List.getElem?_eq_getElem _
     have HGD := Lib.hid hgd; clear hgd; cases hx : (((t[2 + d]'hix).toNat : Int) != 59)
     · have HX := Lib.hid hx; go_enter Tryz.func142, Tryz.ntmps142; go_wp2_with (first | (go_at_call 175; refine (HP.out _ _).mono ?_; rintro e w' ⟨rfl, rfl⟩) | (go_at_call 176; (with_reducible refine (CD.out _ hE).mono ?_); rintro e w' ⟨rfl, hb'⟩) | (go_at_call 177; (with_reducible refine (PU.out _).mono ?_); rintro e w'' ⟨rfl, hb''⟩)); go_ret2; have hg : ¬ (d = 0 ∨ 7 < d ∨ (t.drop 2)[d]? ≠ some 59) := by
        rw [HGD.out]; rintro (h | h | h)
        · omega
        · exact hm h
        · have := HX.out; simp only [bne_eq_false_iff_eq] at this; exact h (by rw [show t[2 + d]'hix = 59 from UInt8.toNat_inj.1 (by rw [show (59 : UInt8).toNat = 59 from rfl]; omega)])
       exact ⟨by rw [HN.out, GOOD.out hg]; simp <;> omega, hb'.trans hb''⟩
     · have HX := Lib.hid hx; go_enter Tryz.func142, Tryz.ntmps142; go_wp2_with (first | (go_at_call 175; refine (HP.out _ _).mono ?_; rintro e w' ⟨rfl, rfl⟩) | (go_at_call 176; (with_reducible refine (CD.out _ hE).mono ?_); rintro e w' ⟨rfl, hb'⟩)); go_ret2; have hg : (t.drop 2)[d]? ≠ some 59 := by
        rw [HGD.out]; intro h; have := HX.out; rw [Option.some.inj h] at this; exact absurd this (by decide)
       exact ⟨by rw [HN.out, BAD.out (Or.inr (Or.inr hg))]; rfl, hb'⟩
 · have hpl := pre_len h1; simp only [List.length_cons, List.length_nil] at hpl; have hf : (3 : Int) ≤ t.length := by omega
   have hf2 : 3 ≤ t.length := by omega
   have HN := Lib.hid (show nbr t = nbF 16 3 6 (t.drop 3) by unfold nbr; rw [h1]; rfl); have hdl := ndg_le 16 (t.drop 3); have hall := ndg_all 16 (t.drop 3); have cD := fun W hW => digits_c 16 (t.drop 3) (by omega) (by simp; omega) W hW
   obtain ⟨d, hd⟩ : ∃ d, d = ndg 16 (t.drop 3) := ⟨_, rfl⟩; rw [← hd] at hdl hall cD; have HDD := Lib.hid hd; have HDL := Lib.hid hall; have CD := Lib.hid cD; simp only [List.length_drop] at hdl; clear hd hall cD; have bad : (d = 0 ∨ 6 < d ∨ (t.drop 3)[d]? ≠ some 59) → nbF 16 3 6 (t.drop 3) = (0, 0) := by
    intro h; unfold nbF; rw [if_pos]; simp only [nbB, ← HDD.out, Bool.or_eq_true, decide_eq_true_eq]; rcases h with h | h | h
    · exact Or.inl (Or.inl h)
    · exact Or.inl (Or.inr h)
    · exact Or.inr h
   have good : ¬ (d = 0 ∨ 6 < d ∨ (t.drop 3)[d]? ≠ some 59) → nbF 16 3 6 (t.drop 3) = (Nv 16 ((t.drop 3).take d), 3 + d + 1) := by
    intro h; unfold nbF; rw [if_neg, ← HDD.out]; simp only [nbB, ← HDD.out, Bool.or_eq_true, decide_eq_true_eq]; rintro ((h' | h') | h')
    · exact h (Or.inl h')
    · exact h (Or.inr (Or.inl h'))
    · exact h (Or.inr (Or.inr h'))
   have BAD := Lib.hid bad; have GOOD := Lib.hid good; clear bad good; cases h0 : ((d : Int) == 0)
   rotate_left
   · have H0 := Lib.hid (eq_of_beq h0); go_enter Tryz.func142, Tryz.ntmps142; go_wp2_with (first | (go_at_call 175; refine (HP.out _ _).mono ?_; rintro e w' ⟨rfl, rfl⟩) | (go_at_call 176; (with_reducible refine (CD.out _ hE).mono ?_); rintro e w' ⟨rfl, hb'⟩)); go_ret2; exact ⟨by rw [HN.out, BAD.out (Or.inl (by have := H0.out; omega))]; rfl, hb'⟩
   have H0 := Lib.hid (ne_of_beq_false h0); by_cases hm : 6 < d
   · have hm' : (6 : Int) < d := by omega
     go_enter Tryz.func142, Tryz.ntmps142; go_wp2_with (first | (go_at_call 175; refine (HP.out _ _).mono ?_; rintro e w' ⟨rfl, rfl⟩) | (go_at_call 176; (with_reducible refine (CD.out _ hE).mono ?_); rintro e w' ⟨rfl, hb'⟩)); go_ret2; exact ⟨by rw [HN.out, BAD.out (Or.inr (Or.inl hm))]; rfl, hb'⟩
   have hm' : ¬ (6 : Int) < d := by omega
   cases he : ((d : Int) == ((t.length - 3 : Nat) : Int))
   rotate_left
   · have H1 := Lib.hid (eq_of_beq he); go_enter Tryz.func142, Tryz.ntmps142; go_wp2_with (first | (go_at_call 175; refine (HP.out _ _).mono ?_; rintro e w' ⟨rfl, rfl⟩) | (go_at_call 176; (with_reducible refine (CD.out _ hE).mono ?_); rintro e w' ⟨rfl, hb'⟩)); go_ret2; exact ⟨by rw [HN.out, BAD.out (Or.inr (Or.inr (by rw [List.getElem?_eq_none (by have := H1.out; simp; omega)]; simp)))]; rfl, hb'⟩
   have hne := ne_of_beq_false he; have hlt : d < t.length - 3 := by omega
   have hix : 3 + d < t.length := by omega
   clear hne; have hlt' : (d : Int) < ((t.length - 3 : Nat) : Int) := by omega
   have hle' : (d : Int) ≤ ((t.length - 3 : Nat) : Int) := by omega
   have hle : d ≤ t.length - 3 := by omega
   have hd0 : 0 < d := by have := H0.out; omega
   have hbd := Nv_bd 16 (by omega) (List.take d (List.drop 3 t)) HDL.out (by simp; omega); have PU := Lib.hid (fun W => pu_yes 16 32 (List.take d (List.drop 3 t)) (by omega) (Or.inr ⟨rfl, by simp; omega⟩) (by simp; omega) HDL.out W); have hgd : (t.drop 3)[d]? = some (t[3 + d]'hix) := by rw [List.getElem?_drop]; exact List.getElem?_eq_getElem _
   have HGD := Lib.hid hgd; clear hgd; cases hx : (((t[3 + d]'hix).toNat : Int) != 59)
   · have HX := Lib.hid hx; go_enter Tryz.func142, Tryz.ntmps142; go_wp2_with (first | (go_at_call 175; refine (HP.out _ _).mono ?_; rintro e w' ⟨rfl, rfl⟩) | (go_at_call 176; (with_reducible refine (CD.out _ hE).mono ?_); rintro e w' ⟨rfl, hb'⟩) | (go_at_call 177; (with_reducible refine (PU.out _).mono ?_); rintro e w'' ⟨rfl, hb''⟩)); go_ret2; have hg : ¬ (d = 0 ∨ 6 < d ∨ (t.drop 3)[d]? ≠ some 59) := by
      rw [HGD.out]; rintro (h | h | h)
      · omega
      · exact hm h
      · have := HX.out; simp only [bne_eq_false_iff_eq] at this; exact h (by rw [show t[3 + d]'hix = 59 from UInt8.toNat_inj.1 (by rw [show (59 : UInt8).toNat = 59 from rfl]; omega)])
     exact ⟨by rw [HN.out, GOOD.out hg]; simp <;> omega, hb'.trans hb''⟩
   · have HX := Lib.hid hx; go_enter Tryz.func142, Tryz.ntmps142; go_wp2_with (first | (go_at_call 175; refine (HP.out _ _).mono ?_; rintro e w' ⟨rfl, rfl⟩) | (go_at_call 176; (with_reducible refine (CD.out _ hE).mono ?_); rintro e w' ⟨rfl, hb'⟩)); go_ret2; have hg : (t.drop 3)[d]? ≠ some 59 := by
      rw [HGD.out]; intro h; have := HX.out; rw [Option.some.inj h] at this; exact absurd this (by decide)
     exact ⟨by rw [HN.out, BAD.out (Or.inr (Or.inr hg))]; rfl, hb'⟩
end Go.Proofs.YtamdlihgecpbkaaGreatDoor

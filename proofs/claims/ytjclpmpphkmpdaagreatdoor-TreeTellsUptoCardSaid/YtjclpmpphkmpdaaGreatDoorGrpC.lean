/- strconv.ParseUint at base 10 and 16, of few digits. · strings.Cut at a byte; strings.Builder. -/
import Derived.Test.YtjclpmpphkmpdaaGreatDoorGrpB
import Derived.Lib.Builder
import Derived.Lib.Strings
import Derived.Lib.Slices
import Derived.Lib.Walk
import Derived.Lib.AppendStr
import Derived.Lib.UnsafeStr
namespace Go.Proofs.YtjclpmpphkmpdaaGreatDoor
open Go.RowKit

def lo (c : Int) : Int := if c / 32 % 2 = 0 then c + 32 else c
theorem lo_bits : ∀ c : Fin 256, bits .or .u8 (c.val : Int) 32 = lo c.val := by decide +kernel
theorem lower_c (c : Int) (h0 : 0 ≤ c) (h1 : c ≤ 255) (w : World) : Calls Tryz.prog 122 #[.int .u8 c] w fun e w' => e = .returned (.int .u8 (lo c)) ∧ w = w' := by
  refine (Tryz.internal_strconv_lower c w).mono fun e w' ⟨he, hw⟩ => ⟨?_, hw.symm⟩
  have := lo_bits ⟨c.toNat, by omega⟩
  simp only [show ((c.toNat : Nat) : Int) = c by omega] at this
  rw [he, this]

/-- Is a byte a digit of a base? -/
def dig (b : Int) (c : UInt8) : Bool := decide (0 ≤ Dg c.toNat b)
def Nv (b : Int) (l : List UInt8) : Int := l.foldl (fun n c => n * b + Dg c.toNat b) 0
theorem Nv_snoc (b : Int) (l : List UInt8) (c : UInt8) : Nv b (l ++ [c]) = Nv b l * b + Dg c.toNat b := by simp [Nv]
theorem Dg_lt (n b : Int) (hb : 10 ≤ b) : Dg n b < b := by
  simp only [Dg]; split <;> omega
theorem Nv_bd (b : Int) (hb : b = 10 ∨ b = 16) (l : List UInt8) : l.all (dig b) = true → l.length ≤ 7 → 0 ≤ Nv b l ∧ Nv b l < 268435456 := by
  intro hd hl
  suffices h : ∀ l : List UInt8, l.all (dig b) = true → 0 ≤ Nv b l ∧ Nv b l < 16 ^ l.length by
    have := h l hd
    have h2 : (16 : Int) ^ l.length ≤ 16 ^ 7 := by
      have := Nat.pow_le_pow_right (n := 16) (by omega) hl
      exact_mod_cast this
    omega
  intro l
  refine snoc_ind (p := fun l => l.all (dig b) = true → 0 ≤ Nv b l ∧ Nv b l < 16 ^ l.length) (fun _ => by simp [Nv]) (fun l c ih hd => ?_) l
  simp only [List.all_append, Bool.and_eq_true, List.all_cons, List.all_nil, Bool.and_true] at hd
  have h1 := ih hd.1
  have hc : 0 ≤ Dg c.toNat b := by simpa [dig] using hd.2
  have hlt := Dg_lt c.toNat b (by omega)
  rw [Nv_snoc, List.length_append, List.length_singleton, Int.pow_succ]
  rcases hb with rfl | rfl <;> omega
/-- What the inner ParseUint answers. -/
def IP (b : Int) (l : List UInt8) : Value := if l.all (dig b) then .tuple #[.int .u64 (Nv b l), .nilIface] else .tuple #[.int .u64 0, .iface 165 (.int .i64 2)]
theorem all_snoc (b : Int) (l : List UInt8) (c : UInt8) : (l ++ [c]).all (dig b) = (l.all (dig b) && dig b c) := by simp
theorem not_all (b : Int) (l : List UInt8) (k : Nat) (h : k < l.length) (hd : dig b l[k] = false) : l.all (dig b) = false := by
  rw [List.all_eq_false]; exact ⟨l[k], List.getElem_mem _, by simp [hd]⟩

theorem IP_no {b : Int} {l : List UInt8} (h : l.all (dig b) = false) : IP b l = .tuple #[.int .u64 0, .iface 165 (.int .i64 2)] := by unfold IP; rw [h]; rfl
theorem IP_yes {b : Int} {l : List UInt8} (h : l.all (dig b) = true) : IP b l = .tuple #[.int .u64 (Nv b l), .nilIface] := by unfold IP; rw [h]; rfl
theorem Dg_cases (c b : Int) (hb : b = 10 ∨ b = 16) (h0 : 0 ≤ c) (h1 : c ≤ 255) : (48 ≤ c ∧ c ≤ 57 ∧ Dg c b = c - 48) ∨ (¬ (48 ≤ c ∧ c ≤ 57) ∧ 97 ≤ lo c ∧ lo c ≤ 122 ∧ lo c - 97 + 10 < b ∧ Dg c b = lo c - 97 + 10) ∨ (¬ (48 ≤ c ∧ c ≤ 57) ∧ (lo c < 97 ∨ 122 < lo c ∨ b ≤ lo c - 97 + 10) ∧ Dg c b = -1) := by
  have hlo : (65 ≤ c ∧ c ≤ 90 ∧ lo c = c + 32) ∨ (97 ≤ c ∧ c ≤ 122 ∧ lo c = c) ∨ ((c < 65 ∨ 90 < c) ∧ (c < 97 ∨ 122 < c) ∧ (lo c < 97 ∨ 122 < lo c)) := by
    unfold lo; split <;> omega
  simp only [Dg]
  (repeat' split) <;> omega
theorem lo_bd (c : Int) (h0 : 0 ≤ c) (h1 : c ≤ 255) : 0 ≤ lo c ∧ lo c ≤ 255 := by unfold lo; split <;> omega

set_option maxRecDepth 100000 in
set_option maxHeartbeats 4000000 in
theorem iparse10 (bits : Int) (l : List UInt8) (hx : bits = 8 ∧ l.length ≤ 1 ∨ bits = 32 ∧ l.length ≤ 7) (hne : 0 < l.length) (w : World) :
    Calls Tryz.prog 112 #[.string ⟨l.toArray⟩, .int .i64 10, .int .i64 bits] w fun e w' => e = .returned (IP 10 l) ∧ Bl w w' := by
  have hcv := of_str
  have hl7 : l.length ≤ 7 := by omega
  have hdb := Nv_bd 10 (by omega)
  have HDB := Lib.hid hdb
  have hBA : BA (w.drew.alloc (brow l (bCap w l.length) 5)) w.heap.size l := BA.at (by simp)
  have HBA := Lib.hid hBA
  clear hdb hBA
  have h2 : l.isEmpty = false := by cases l <;> simp_all
  have h255 : ∀ t : List UInt8, t.length ≤ 1 → Nv 10 t ≤ 15 := by
    intro t ht
    match t, ht with
    | [], _ => simp [Nv]
    | [c], _ => have := Dg_lt c.toNat 10 (by omega); simp [Nv]; omega
  have HS := Lib.hid h255
  clear h255
  rcases hx with ⟨rfl, hl⟩ | ⟨rfl, hl⟩
  all_goals
    go_enter Tryz.func112, Tryz.ntmps112
    go_wp2
    go_loop [12, 13, 101] (fun u n i => ∃ k : Nat, k ≤ l.length ∧ u = .bool false ∧ i = .int .i64 k ∧ n = .int .u64 (Nv 10 (l.take k)) ∧ (l.take k).all (dig 10) = true) (fun _ _ i => l.length - (intOf i).toNat)
    case atStart => exact ⟨0, Nat.zero_le _, rfl, rfl, rfl, rfl⟩
    case round =>
      obtain ⟨k, hk, rfl, rfl, rfl, ha⟩ := hrel
      by_cases hlt : k < l.length
      · have hb := u8_lt l[k]
        have hc := HBA.out k hlt
        have hbd := HDB.out _ ha (by simp; omega)
        have hbd2 := HDB.out (l.take (k + 1))
        rw [take_snoc l k hlt, all_snoc, ha, Bool.true_and, Nv_snoc] at hbd2
        have hs2 := HS.out (l.take (k + 1))
        rw [take_snoc l k hlt, Nv_snoc] at hs2
        have HT := Lib.hid (take_snoc l k hlt)
        have HA := Lib.hid ha
        have HNO := Lib.hid (not_all 10 l k hlt)
        have HN := Lib.hid (Nv_snoc 10 (l.take k) l[k])
        have HX := Lib.hid (Dg_cases l[k].toNat 10 (by omega) (by omega) (by omega))
        have hb2 := Lib.hid hbd2
        have hs3 := Lib.hid hs2
        have h95 : lo 95 = 127 := by decide
        have H95 := Lib.hid (show (l[k].toNat : Int) ≠ 95 ∨ lo l[k].toNat = 127 by by_cases h : (l[k].toNat : Int) = 95; (right; rw [h]; decide); (left; exact h))
        have hlb := lo_bd l[k].toNat (by omega) (by omega)
        clear ha hbd2 hs2
        go_wp2_with (go_at_call 122; refine (lower_c _ (by omega) (by omega) _).mono ?_; rintro e w' ⟨rfl, rfl⟩)
        all_goals
          have hX := HX.out
          have hY := H95.out
        all_goals first
          | (go_ret2
             have hd : dig 10 l[k] = false := (by unfold dig; rw [decide_eq_false_iff_not]; omega)
             exact ⟨by rw [IP_no (HNO.out hd)]; rfl, by repeat (first | exact Bl.refl _ | refine Bl.alloc ?_ _ | refine Bl.drew ?_)⟩)
          | (exfalso
             have hd : dig 10 l[k] = true := (by unfold dig; rw [decide_eq_true_eq]; omega)
             have h1 := hb2.out hd (by simp; omega)
             first
               | omega
               | (have h2 := hs3.out (by simp; omega); omega))
          | (go_round
             case rel =>
               have hd : dig 10 l[k] = true := (by unfold dig; rw [decide_eq_true_eq]; omega)
               exact ⟨k + 1, by omega, rfl, by go_num, congrArg (Value.int .u64) (by rw [HT.out, HN.out]; omega), by rw [HT.out, all_snoc, HA.out, hd]; rfl⟩
             case measure => simp [intOf]; omega)
      · have HE := Lib.hid (show l.take k = l from List.take_of_length_le (by omega))
        have HA := Lib.hid ha
        clear ha
        go_wp2
        go_ret2
        refine ⟨?_, by repeat (first | exact Bl.refl _ | refine Bl.alloc ?_ _ | refine Bl.drew ?_)⟩
        have hA := HA.out
        rw [HE.out] at hA ⊢
        rw [IP_yes hA]; rfl

set_option maxRecDepth 100000 in
set_option maxHeartbeats 4000000 in
theorem iparse16 (bits : Int) (l : List UInt8) (hx : bits = 8 ∧ l.length ≤ 1 ∨ bits = 32 ∧ l.length ≤ 7) (hne : 0 < l.length) (w : World) :
    Calls Tryz.prog 112 #[.string ⟨l.toArray⟩, .int .i64 16, .int .i64 bits] w fun e w' => e = .returned (IP 16 l) ∧ Bl w w' := by
  have hcv := of_str
  have hl7 : l.length ≤ 7 := by omega
  have hdb := Nv_bd 16 (by omega)
  have HDB := Lib.hid hdb
  have hBA : BA (w.drew.alloc (brow l (bCap w l.length) 5)) w.heap.size l := BA.at (by simp)
  have HBA := Lib.hid hBA
  clear hdb hBA
  have h2 : l.isEmpty = false := by cases l <;> simp_all
  have h255 : ∀ t : List UInt8, t.length ≤ 1 → Nv 16 t ≤ 15 := by
    intro t ht
    match t, ht with
    | [], _ => simp [Nv]
    | [c], _ => have := Dg_lt c.toNat 16 (by omega); simp [Nv]; omega
  have HS := Lib.hid h255
  clear h255
  rcases hx with ⟨rfl, hl⟩ | ⟨rfl, hl⟩
  all_goals
    go_enter Tryz.func112, Tryz.ntmps112
    go_wp2
    go_loop [12, 13, 101] (fun u n i => ∃ k : Nat, k ≤ l.length ∧ u = .bool false ∧ i = .int .i64 k ∧ n = .int .u64 (Nv 16 (l.take k)) ∧ (l.take k).all (dig 16) = true) (fun _ _ i => l.length - (intOf i).toNat)
    case atStart => exact ⟨0, Nat.zero_le _, rfl, rfl, rfl, rfl⟩
    case round =>
      obtain ⟨k, hk, rfl, rfl, rfl, ha⟩ := hrel
      by_cases hlt : k < l.length
      · have hb := u8_lt l[k]
        have hc := HBA.out k hlt
        have hbd := HDB.out _ ha (by simp; omega)
        have hbd2 := HDB.out (l.take (k + 1))
        rw [take_snoc l k hlt, all_snoc, ha, Bool.true_and, Nv_snoc] at hbd2
        have hs2 := HS.out (l.take (k + 1))
        rw [take_snoc l k hlt, Nv_snoc] at hs2
        have HT := Lib.hid (take_snoc l k hlt)
        have HA := Lib.hid ha
        have HNO := Lib.hid (not_all 16 l k hlt)
        have HN := Lib.hid (Nv_snoc 16 (l.take k) l[k])
        have HX := Lib.hid (Dg_cases l[k].toNat 16 (by omega) (by omega) (by omega))
        have hb2 := Lib.hid hbd2
        have hs3 := Lib.hid hs2
        have h95 : lo 95 = 127 := by decide
        have H95 := Lib.hid (show (l[k].toNat : Int) ≠ 95 ∨ lo l[k].toNat = 127 by by_cases h : (l[k].toNat : Int) = 95; (right; rw [h]; decide); (left; exact h))
        have hlb := lo_bd l[k].toNat (by omega) (by omega)
        clear ha hbd2 hs2
        go_wp2_with (go_at_call 122; refine (lower_c _ (by omega) (by omega) _).mono ?_; rintro e w' ⟨rfl, rfl⟩)
        all_goals
          have hX := HX.out
          have hY := H95.out
        all_goals first
          | (go_ret2
             have hd : dig 16 l[k] = false := (by unfold dig; rw [decide_eq_false_iff_not]; omega)
             exact ⟨by rw [IP_no (HNO.out hd)]; rfl, by repeat (first | exact Bl.refl _ | refine Bl.alloc ?_ _ | refine Bl.drew ?_)⟩)
          | (exfalso
             have hd : dig 16 l[k] = true := (by unfold dig; rw [decide_eq_true_eq]; omega)
             have h1 := hb2.out hd (by simp; omega)
             first
               | omega
               | (have h2 := hs3.out (by simp; omega); omega))
          | (go_round
             case rel =>
               have hd : dig 16 l[k] = true := (by unfold dig; rw [decide_eq_true_eq]; omega)
               exact ⟨k + 1, by omega, rfl, by go_num, congrArg (Value.int .u64) (by rw [HT.out, HN.out]; omega), by rw [HT.out, all_snoc, HA.out, hd]; rfl⟩
             case measure => simp [intOf]; omega)
      · have HE := Lib.hid (show l.take k = l from List.take_of_length_le (by omega))
        have HA := Lib.hid ha
        clear ha
        go_wp2
        go_ret2
        refine ⟨?_, by repeat (first | exact Bl.refl _ | refine Bl.alloc ?_ _ | refine Bl.drew ?_)⟩
        have hA := HA.out
        rw [HE.out] at hA ⊢
        rw [IP_yes hA]; rfl
end Go.Proofs.YtjclpmpphkmpdaaGreatDoor

namespace Go.Proofs.YtjclpmpphkmpdaaGreatDoor
open Go.RowKit

/-- What stands ahead of the first such byte, behind it; is it there? -/
def bef (x : UInt8) (l : List UInt8) : List UInt8 := l.takeWhile (· != x)
def aft (x : UInt8) (l : List UInt8) : List UInt8 := (l.dropWhile (· != x)).drop 1
theorem ixb (x : UInt8) (l : List UInt8) : (x ∈ l ∧ Lib.indexByte l x = (bef x l).length ∧ l = bef x l ++ x :: aft x l) ∨ (x ∉ l ∧ Lib.indexByte l x = -1 ∧ bef x l = l ∧ aft x l = []) := by
  induction l with
  | nil => right; simp [Lib.indexByte, bef, aft]
  | cons c l ih =>
    by_cases h : c = x
    · subst h
      left
      simp [Lib.indexByte, bef, aft]
    · have h' : (c != x) = true := by simp [h]
      rcases ih with ⟨h1, h2, h3⟩ | ⟨h1, h2, h3, h4⟩
      · left
        refine ⟨by simp [h1], ?_, ?_⟩
        · unfold Lib.indexByte; simp [h, h2, bef]
        · simp only [bef, aft, List.takeWhile_cons, List.dropWhile_cons, h', if_true, List.cons_append] at h3 ⊢
          rw [← h3]
      · right
        refine ⟨fun hm => by rcases List.mem_cons.1 hm with e | e; exact h e.symm; exact h1 e, ?_, ?_, ?_⟩
        · unfold Lib.indexByte; simp [h, h2]
        · simp only [bef, List.takeWhile_cons, h', if_true] at h3 ⊢; rw [h3]
        · simpa only [aft, List.dropWhile_cons, h', if_true] using h4
theorem bef_len (x : UInt8) (l : List UInt8) : (bef x l).length ≤ l.length := by
  unfold bef; induction l with
  | nil => simp
  | cons c l ih => simp only [List.takeWhile_cons]; split <;> simp <;> omega
theorem aft_len (x : UInt8) (l : List UInt8) : (aft x l).length ≤ l.length := by
  rcases ixb x l with ⟨_, _, h⟩ | ⟨_, _, _, h⟩
  · have := congrArg List.length h; simp at this; omega
  · rw [h]; simp

theorem index_c (l : List UInt8) (x : UInt8) (w : World) : Calls Tryz.prog 99 #[.string ⟨l.toArray⟩, .string ⟨#[x]⟩] w fun e w' => e = .returned (.int .i64 (Lib.indexByte l x)) ∧ w = w' :=
  (Tryz.stringslite_Index_one ⟨l.toArray⟩ x w).mono fun _ _ ⟨he, hw⟩ => ⟨he, hw.symm⟩

set_option maxHeartbeats 1000000 in
theorem cutl_c (l : List UInt8) (x : UInt8) (hl : l.length ≤ 9223372036854775806) (w : World) :
    Calls Tryz.prog 86 #[.string ⟨l.toArray⟩, .string ⟨#[x]⟩] w fun e w' => e = .returned (.tuple #[.string ⟨(bef x l).toArray⟩, .string ⟨(aft x l).toArray⟩, .bool (decide (x ∈ l))]) ∧ Qt w w' := by
  have hc := fun W => index_c l x W
  rcases ixb x l with ⟨h1, h2, h3⟩ | ⟨h1, h2, h3, h4⟩
  · have hlen := congrArg List.length h3
    simp only [List.length_append, List.length_cons] at hlen
    have ht : l.take (bef x l).length = bef x l := by
      have : (bef x l ++ x :: aft x l).take (bef x l).length = bef x l := List.take_left' rfl
      rwa [← h3] at this
    have hd : l.drop ((bef x l).length + 1) = aft x l := by
      have : ((bef x l ++ [x]) ++ aft x l).drop ((bef x l).length + 1) = aft x l := List.drop_left' (by simp)
      rwa [List.append_assoc, List.singleton_append, ← h3] at this
    obtain ⟨n, hn⟩ : ∃ n, n = (bef x l).length := ⟨_, rfl⟩
    rw [← hn] at ht hd hlen h2
    rw [h2] at hc
    have HT := Lib.hid ht
    have HD := Lib.hid hd
    have HC := Lib.hid hc
    have HM := Lib.hid (decide_eq_true h1)
    have hnl : n + 1 ≤ l.length := by omega
    have hnl' : (n : Int) + 1 ≤ (l.length : Int) := by omega
    have hnl2 : (n : Int) ≤ (l.length : Int) := by omega
    clear h1 h2 h3 ht hd hn hlen hc
    go_enter Tryz.func86, Tryz.ntmps86
    go_wp2_with (first | (go_at_call 99; refine (HC.out _).mono ?_; rintro e w' ⟨rfl, rfl⟩) | go_quiet (fail))
    go_ret3
    exact ⟨by rw [← HT.out, ← HD.out, HM.out]; rfl, _, rfl⟩
  · rw [h2] at hc
    have HC := Lib.hid hc
    have HB := Lib.hid h3
    have HA := Lib.hid h4
    have HM := Lib.hid (decide_eq_false h1)
    clear hc h1 h2 h3 h4
    go_enter Tryz.func86, Tryz.ntmps86
    go_wp2_with (first | (go_at_call 99; refine (HC.out _).mono ?_; rintro e w' ⟨rfl, rfl⟩) | go_quiet (fail))
    go_ret3
    exact ⟨by rw [HB.out, HA.out, HM.out]; rfl, Qt.refl _⟩
theorem cut_c (l : List UInt8) (x : UInt8) (hl : l.length ≤ 9223372036854775806) (w : World) :
    Calls Tryz.prog 73 #[.string ⟨l.toArray⟩, .string ⟨#[x]⟩] w fun e w' => e = .returned (.tuple #[.string ⟨(bef x l).toArray⟩, .string ⟨(aft x l).toArray⟩, .bool (decide (x ∈ l))]) ∧ Qt w w' := by
  go_enter Tryz.func73, Tryz.ntmps73
  go_wp2_with (go_at_call 86; refine (cutl_c l x hl _).mono ?_; rintro e w' ⟨rfl, n, rfl⟩)
  go_ret3
  exact ⟨rfl, n, rfl⟩

/-! ### The builder -/
theorem sizeB : (Tryz.prog.info? 83).map (·.size) = some 2 := by kernel_rfl
set_option maxHeartbeats 1000000 in
set_option maxRecDepth 100000 in
theorem copyCheck_used (b : Nat) (w : World) (h0 : w.cell? ⟨b, 0, none⟩ = some (.pointer (some ⟨b, 0, none⟩))) :
    Calls Tryz.prog 64 #[.pointer (some ⟨b, 0, none⟩)] w fun e w' => e = .returned (.tuple #[]) ∧ w' = w := by
  obtain ⟨j, hj, _⟩ := Option.map_eq_some_iff.1 sizeB
  go_enter Tryz.func64, Tryz.ntmps64
  go_wp2
  rw [Lib.run_neq_ptr_same w _ Tryz.underlying80 hj]
  go_wp2
  go_end0
  exact ⟨rfl, rfl⟩
theorem liesB : liesAt Tryz.prog Tryz.prog.depth 83 (2 / Tryz.prog.cellsOf 83) 0 83 1 = true := by kernel_rfl
set_option maxHeartbeats 1000000 in
set_option maxRecDepth 100000 in
theorem copyCheck_fresh (b : Nat) (w : World) (h0 : w.cell? ⟨b, 0, none⟩ = some (.pointer none)) (hsh : w.shape? b = some (83, 2)) (hfz : w.frozen? ⟨b, 0, none⟩ = false) :
    Calls Tryz.prog 64 #[.pointer (some ⟨b, 0, none⟩)] w fun e w' => e = .returned (.tuple #[]) ∧ w' = w.setCell ⟨b, 0, none⟩ (.pointer (some ⟨b, 0, none⟩)) := by
  obtain ⟨j, hj, hjs⟩ := Option.map_eq_some_iff.1 sizeB
  go_enter Tryz.func64, Tryz.ntmps64
  go_wp2
  rw [Lib.run_to_unsafe w ⟨b, 0, none⟩ Tryz.underlying80 Tryz.underlying110 hj (by rw [hjs]; decide) hsh (Nat.zero_lt_succ 1)]
  simp only [Result.andThen]
  rw [Oper.upon_value]
  go_wp2
  rw [run_callFunc_extern Tryz.func75 (by kernel_rfl) (by kernel_rfl) (by kernel_rfl) (e := Extern.AbiNoEscape.same) (by kernel_rfl)]
  rw [Lib.run_noEscape]
  simp only [Result.andThen]
  rw [Oper.upon_value]
  go_wp2
  rw [Lib.run_from_unsafe w ⟨b, 0, none⟩ Tryz.underlying110 Tryz.underlying80 hj hsh liesB]
  simp only [Result.andThen]
  rw [Oper.upon_value]
  go_wp2
  go_end0
  exact ⟨rfl, rfl⟩
theorem copyCheck_c (B b : Nat) (bs : List Value) (w : World) (h : Lib.IsBuilder 83 5 B b bs w) :
    Calls Tryz.prog 64 #[.pointer (some ⟨b, 0, none⟩)] w fun e w' => e = .returned (.tuple #[]) ∧ (Lib.BuilderAt 83 5 B b (.pointer (some ⟨b, 0, none⟩)) bs w' ∧ Below B w w') := by
  rcases h with h | h
  · refine (copyCheck_fresh b w h.cell0 h.shape h.frozen0).mono ?_
    rintro e w' ⟨rfl, rfl⟩
    exact ⟨rfl, h.used _, (Below.refl B w).setCell (p := ⟨b, 0, none⟩) h.1 _⟩
  · refine (copyCheck_used b w h.cell0).mono ?_
    rintro e w' ⟨rfl, rfl⟩
    exact ⟨rfl, h, Below.refl B _⟩
theorem infoByte : (Tryz.prog.info? 5).map (fun i => (i.zero, i.size, i.bytes)) = some (some (.int .u8 0), 1, 1) := by kernel_rfl
theorem neB5 : (83 : Nat) ≠ 5 := by decide

set_option maxHeartbeats 2000000 in
set_option maxRecDepth 100000 in
theorem write_c (B b : Nat) (bs : List Value) (s : ByteArray) (w : World) (h : Lib.IsBuilder 83 5 B b bs w) (hlen : bs.length + s.size ≤ 140737488355328) (hBw : B ≤ w.heap.size) :
    Calls Tryz.prog 52 #[.pointer (some ⟨b, 0, none⟩), .string s] w fun e w' => e = .returned (.tuple #[.int .i64 s.size, .nilIface]) ∧ (Lib.BuilderAt 83 5 B b (.pointer (some ⟨b, 0, none⟩)) (bs ++ Lib.strCells s) w' ∧ Below B w w') := by
  obtain ⟨i0, hi, hz0, hz1, hz2⟩ := info_parts infoByte
  go_enter Tryz.func52, Tryz.ntmps52
  go_wp2_with (go_at_call 64; refine (copyCheck_c B b bs _ h).mono ?_)
  rintro e w1 ⟨rfl, h1, hb1⟩
  obtain ⟨hB, v, hbk, hown, hne⟩ := h1
  have c0 : w1.cell? ⟨b, 0, none⟩ = some (.pointer (some ⟨b, 0, none⟩)) := by rw [Lib.cell_of_heap hbk]; rfl
  have c1 : w1.cell? ⟨b, 1, none⟩ = some v := by rw [Lib.cell_of_heap hbk]; rfl
  go_wp2_with (at_builtin; refine Lib.wpList_append_own_string _ rfl _ _ 81 9 rfl B 5 i0 Tryz.underlying81 Tryz.underlying9 hi hz0 hz1 hz2 _ _ _ rfl hown s rfl ?c3 ?c4 ?c5 ?_)
  case c3 => unfold maxLen; omega
  case c4 => omega
  case c5 => have := hb1.size; omega
  intro v' w2 hown' hgrow _
  have hlt : b < w1.heap.size := by
    rcases Nat.lt_or_ge b w1.heap.size with h' | h'
    · exact h'
    · simp [Array.getElem?_eq_none h'] at hbk
  have hb2 : w2.heap[b]? = some (.cells #[.pointer (some ⟨b, 0, none⟩), v] 83 (0, 0)) := by
    rw [hgrow.block b hlt (fun e => hne e.symm)]
    exact hbk
  have d0 : w2.cell? ⟨b, 0, none⟩ = some (.pointer (some ⟨b, 0, none⟩)) := by rw [Lib.cell_of_heap hb2]; rfl
  have d1 : w2.cell? ⟨b, 1, none⟩ = some v := by rw [Lib.cell_of_heap hb2]; rfl
  have f1 : w2.frozen? ⟨b, 1, none⟩ = false := Lib.frozen_of_heap hb2 1
  obtain ⟨ao, n', cap, rfl⟩ : ∃ ao n' cap, v' = .slice ao n' cap := by
    rcases hown'.2 with ⟨hv, _⟩ | ⟨g, cap, cur, hv, _⟩
    · exact ⟨_, _, _, hv⟩
    · exact ⟨_, _, _, hv⟩
  go_wp2
  go_ret2
  refine ⟨rfl, ?_, ?_⟩
  · exact Lib.BuilderAt.put (T := 83) (e := 5) hB hb2 (bs' := bs ++ Lib.strCells s) (by simpa [Lib.strCells_length] using hown') neB5
  · exact (hb1.grown hgrow (by have := hb1.size; omega) (fun k hk => (hown.lt k hk).1)).setCell (p := ⟨b, 1, none⟩) hB _
end Go.Proofs.YtjclpmpphkmpdaaGreatDoor

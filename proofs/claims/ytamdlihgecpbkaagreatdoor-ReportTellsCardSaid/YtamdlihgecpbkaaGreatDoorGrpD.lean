/- sign and Taken of the program. · Kinds of bytes. · Tokens: memory; kinds of bytes, small letters, names: program and reference. · Tokens: names: program and reference. -/
import Derived.Test.YtamdlihgecpbkaaGreatDoorGrpC
import Derived.Test.YtamdlihgecpbkaaGreatDoorGrpA
import Derived.Test.YtamdlihgecpbkaaGreatDoorGrpB
import Derived.Laws.AppendOwn
import Derived.OwnWalk
import Derived.Deep.QuietTactic
import Derived.BigQuiet
import Derived.RegionTactic
set_option maxRecDepth 100000
set_option maxHeartbeats 4000000
namespace Go.Proofs.YtamdlihgecpbkaaGreatDoor
open Go.RowKit
theorem sign_c (t : List UInt8) (hl : t.length ≤ 4611686018427387904) (w : World) (hE : ES w) :
 Calls Tryz.prog 109 #[.string ⟨t.toArray⟩] w fun e w' => e = .returned (.tuple #[.string ⟨(sgn t).1.toArray⟩, .int .i64 (sgn t).2.1, .bool (sgn t).2.2]) ∧ Bl w w' := by
 have NC := Lib.hid (fun W => named_c t W); have UC := Lib.hid (fun W hW => numbered_c t hl W hW); by_cases h0 : 0 < (nmd t).2
 · have HS := Lib.hid (show sgn t = ((nmd t).1, (nmd t).2, true) by unfold sgn; rw [if_pos h0]); have h0' : (0 : Int) < ((nmd t).2 : Int) := by omega
   go_enter Tryz.func109, Tryz.ntmps109; go_wp2_with (go_at_call 141; (with_reducible refine (NC.out _).mono ?_); rintro e w' ⟨rfl, hb⟩)
   go_ret3
   exact ⟨by rw [HS.out]; rfl, hb⟩
 have h0' : ¬ (0 : Int) < ((nmd t).2 : Int) := by omega
 cases h1 : (((nbr t).2 : Int) == 0)
 · have h1' : ¬ (nbr t).2 = 0 := by have := ne_of_beq_false h1; omega
   cases h2 : scl (nbr t).1
   · have HS := Lib.hid (show sgn t = ([239, 191, 189], (nbr t).2, false) by unfold sgn; rw [if_neg h0, if_neg h1', h2]; rfl); go_enter Tryz.func109, Tryz.ntmps109; go_wp2_with (first | (go_at_call 141; (with_reducible refine (NC.out _).mono ?_); rintro e w' ⟨rfl, hb⟩; have hE' := hE.of_bl hb) | (go_at_call 142; (with_reducible refine (UC.out _ hE').mono ?_); rintro e w'' ⟨rfl, hb'⟩) | (go_at_call 143; refine (scalar_c _ _).mono ?_; rintro e w3 ⟨rfl, rfl⟩))
     go_ret3
     exact ⟨by rw [HS.out]; rfl, hb.trans hb'⟩
   · have HS := Lib.hid (show sgn t = (rowL (nbr t).1, (nbr t).2, true) by unfold sgn; rw [if_neg h0, if_neg h1', h2]; rfl); have hs2 : 0 < (nbr t).1 ∧ (nbr t).1 ≤ 1114111 := by simp [scl] at h2; omega
     obtain ⟨hs3, hs4⟩ := hs2; go_enter Tryz.func109, Tryz.ntmps109; go_wp2_with (first | (go_at_call 141; (with_reducible refine (NC.out _).mono ?_); rintro e w' ⟨rfl, hb⟩; have hE' := hE.of_bl hb) | (go_at_call 142; (with_reducible refine (UC.out _ hE').mono ?_); rintro e w'' ⟨rfl, hb'⟩) | (go_at_call 143; refine (scalar_c _ _).mono ?_; rintro e w3 ⟨rfl, rfl⟩) | go_quiet (fail))
     go_ret3
     exact ⟨by rw [HS.out]; rfl, hb.trans hb'⟩
 · have h1' : (nbr t).2 = 0 := by have := eq_of_beq h1; omega
   have HS := Lib.hid (show sgn t = ([38], 0, false) by unfold sgn; rw [if_neg h0, if_pos h1']); clear h1'; go_enter Tryz.func109, Tryz.ntmps109; go_wp2_with (first | (go_at_call 141; (with_reducible refine (NC.out _).mono ?_); rintro e w' ⟨rfl, hb⟩; have hE' := hE.of_bl hb) | (go_at_call 142; (with_reducible refine (UC.out _ hE').mono ?_); rintro e w'' ⟨rfl, hb'⟩))
   go_ret3
   exact ⟨by rw [HS.out]; rfl, hb.trans hb'⟩
def Bu (B b : Nat) (l : List UInt8) (w : World) : Prop := Lib.IsBuilder 62 5 B b (Lib.byteCells l) w
theorem BuilderAt.of_bl {T e : TypeId} {B b : Nat} {p : Value} {bs : List Value} {w w' : World} (h : Lib.BuilderAt T e B b p bs w) (hb : Bl w w') : Lib.BuilderAt T e B b p bs w' := by
 obtain ⟨hB, v, hk, hown, hne⟩ := h; have hlt : b < w.heap.size := (Array.getElem?_eq_some_iff.1 hk).1; refine ⟨hB, v, (Below.block hb b hlt).trans hk, ⟨hown.1, ?_⟩, hne⟩; rcases hown.2 with h | ⟨g, cap, cur, h1, h2, h3, h4⟩
 · exact Or.inl h
 · exact Or.inr ⟨g, cap, cur, h1, h2, (Below.block hb g (Array.getElem?_eq_some_iff.1 h3).1).trans h3, h4⟩
theorem Bu.of_bl {B b : Nat} {l : List UInt8} {w w' : World} (h : Bu B b l w) (hb : Bl w w') : Bu B b l w' := by
 rcases h with h | h
 · exact Or.inl (BuilderAt.of_bl h hb)
 · exact Or.inr (BuilderAt.of_bl h hb)
theorem wr_c (B b : Nat) (l a : List UInt8) (w : World) (h : Bu B b l w) (hlen : l.length + a.length ≤ 140737488355328) (hBw : B ≤ w.heap.size) :
 Calls Tryz.prog 75 #[.pointer (some ⟨b, 0, none⟩), .string ⟨a.toArray⟩] w fun e w' => e = .returned (.tuple #[.int .i64 a.length, .nilIface]) ∧ Bu B b (l ++ a) w' ∧ Below B w w' := by
 refine (write_c B b (Lib.byteCells l) ⟨a.toArray⟩ w h (by rw [Lib.byteCells_length]; exact hlen) hBw).mono ?_; rintro e w' ⟨rfl, h1, h2⟩; exact ⟨rfl, by unfold Bu; rw [Lib.byteCells_append]; exact Or.inr h1, h2⟩
theorem str_c (B b : Nat) (l : List UInt8) (w : World) (h : Bu B b l w) (hBw : B ≤ w.heap.size) :
 Calls Tryz.prog 44 #[.pointer (some ⟨b, 0, none⟩)] w fun e w' => e = .returned (.string ⟨l.toArray⟩) ∧ Below B w w' :=
 Tryz.Builder_String_any B b l w h hBw
def strLen : Value → Nat | .string s => s.size | _ => 0
theorem taken_c (l : List UInt8) (hl : l.length ≤ 1099511627776) (w : World) (hE : ES w) :
 Calls Tryz.prog 72 #[.string ⟨l.toArray⟩] w fun e w' => e = .returned (.tuple #[.string ⟨(Tk l).1.toArray⟩, .bool (Tk l).2]) ∧ Bl w w' := by
 go_enter Tryz.func72, Tryz.ntmps72; go_wp2; go_loopw [0, 5] (fun s0 s5 wr => ∃ (rest out : List UInt8) (al : Bool), s0 = .string ⟨rest.toArray⟩ ∧ s5 = .bool al ∧ Hid (Tk l = (out ++ (Tk rest).1, al && (Tk rest).2)) ∧ rest.length ≤ l.length ∧ Bu w.heap.size w.heap.size out wr ∧ Bl w wr) (fun s0 _ _ => strLen s0); case atStart => exact ⟨l, [], true, rfl, rfl, Lib.hid (by simp), Nat.le_refl _, Or.inl ⟨Nat.le_refl _, .slice none 0 0, heap_alloc_last _ _, ⟨rfl, Or.inl ⟨rfl, rfl⟩⟩, by simp [Value.ownBlock]⟩, (Bl.refl _).alloc _⟩
 case round =>
  obtain ⟨rest, out, al, rfl, rfl, HK, hr, hB, hbl⟩ := hrel; have hol : out.length ≤ 4 * l.length := by
   have h1 := Tk_len l.length l (Nat.le_refl _); rw [HK.out] at h1; simp only [List.length_append] at h1; omega
  have hBs := Below.size hbl; by_cases hn : rest = []
  · subst hn; have HS := Lib.hid (fun W h hW => str_c w.heap.size w.heap.size out W h hW); go_wp2_with (go_at_call 44; (with_reducible refine (HS.out _ hB hBs).mono ?_); rintro e w' ⟨rfl, hb⟩); go_ret2; exact ⟨by rw [HK.out]; simp [Tk_nil], Below.trans hbl hb⟩
  have hemp : rest.isEmpty = false := by cases rest <;> simp_all
  have hrl : 0 < rest.length := List.length_pos_iff.2 hn; have CC := Lib.hid (fun W => cut_c rest 38 (by omega) W); have hbf := bef_len 38 rest; have haf := aft_len 38 rest; by_cases hm : 38 ∈ rest
  · have hK := HK.out; rw [Tk_cut rest hm, Tk_amp] at hK; have hs := sgn_len (38 :: aft 38 rest); obtain ⟨sg, hsg⟩ : ∃ sg, sg = sgn (38 :: aft 38 rest) := ⟨_, rfl⟩; have SC := Lib.hid (fun W hW => sign_c (38 :: aft 38 rest) (by simp; omega) W hW); rw [← hsg] at hK hs SC; obtain ⟨t, n, ok⟩ := sg; simp only [List.length_cons] at hs hK SC; obtain ⟨hs1, hs2⟩ := hs; have hlen : rest.length = (bef 38 rest).length + 1 + (aft 38 rest).length := by
     rcases ixb 38 rest with ⟨_, _, h3⟩ | ⟨h, _⟩
     · have := congrArg List.length h3; simp at this; omega
     · exact absurd hm h
    have HM := Lib.hid (decide_eq_true hm); have HK2 := Lib.hid hK; obtain ⟨a, ha⟩ : ∃ a, a = bef 38 rest := ⟨_, rfl⟩; obtain ⟨c, hc⟩ : ∃ c, c = aft 38 rest := ⟨_, rfl⟩; rw [HM.out, ← ha, ← hc] at CC; rw [← hc] at SC HK2 hs2 haf; rw [← ha] at hbf HK2; rw [← ha, ← hc] at hlen; clear hK hsg ha hc HM hm; go_wp2_with (first | (go_at_call 108; (with_reducible refine (CC.out _).mono ?_); rintro e w1 ⟨rfl, hq⟩; have hbl1 := hbl.trans hq.bl; have hB1 := hB.of_bl hq.bl; have HW := Lib.hid (wr_c w.heap.size w.heap.size out a w1 hB1 (by omega) (Below.size hbl1))) | (go_at_call 75; (with_reducible refine HW.out.mono ?_); rintro e w2 ⟨rfl, hB2, hb2⟩; clear HW; have hbl2 : Bl w w2 := Below.trans hbl1 hb2; have HS := Lib.hid (SC.out w2 (hE.of_bl hbl2))) | (go_at_call 109; refine HS.out.mono ?_; rintro e w3 ⟨rfl, hb3⟩; clear HS; have hbl3 := hbl2.trans hb3; have hB3 := hB2.of_bl hb3; have HW2 := Lib.hid (wr_c w.heap.size w.heap.size (out ++ a) t w3 hB3 (by simp; omega) (Below.size hbl3))) | (go_at_call 75; (with_reducible refine HW2.out.mono ?_); rintro e w4 ⟨rfl, hB4, hb4⟩; clear HW2; have hbl4 : Bl w w4 := Below.trans hbl3 hb4)); all_goals
     have hmx : (max 0 ((n : Int) - 1)).toNat = n - 1 := by rw [Int.max_def]; split <;> omega
     have hsm : strLen (Value.string ⟨(List.drop (n - 1) c).toArray⟩) < strLen (Value.string ⟨rest.toArray⟩) := by
      simp only [strLen, ByteArray.size, List.size_toArray, List.length_drop]; omega
     rw [hmx]
    · obtain rfl : al = true := by assumption
      exact ⟨⟨List.drop (n - 1) c, out ++ a ++ t, ok, rfl, rfl, Lib.hid (by rw [HK2.out]; simp), by simp; omega, hB4, hbl4⟩, hsm⟩
    · obtain rfl : al = false := by
       have h : ¬ al = true := by assumption
       simpa using h
      exact ⟨⟨List.drop (n - 1) c, out ++ a ++ t, false, rfl, rfl, Lib.hid (by rw [HK2.out]; simp), by simp; omega, hB4, hbl4⟩, hsm⟩
  · have HN := Lib.hid (Tk_none rest hm); have HM := Lib.hid (decide_eq_false hm); have hbef : bef 38 rest = rest := by
     rcases ixb 38 rest with ⟨h, _⟩ | ⟨_, _, h, _⟩
     · exact absurd h hm
     · exact h
    rw [HM.out, hbef] at CC; clear hbef hm hbf haf; go_wp2_with (first | (go_at_call 108; (with_reducible refine (CC.out _).mono ?_); rintro e w1 ⟨rfl, hq⟩; have hbl1 := hbl.trans hq.bl; have hB1 := hB.of_bl hq.bl; have HW := Lib.hid (wr_c w.heap.size w.heap.size out rest w1 hB1 (by omega) (Below.size hbl1))) | (go_at_call 75; (with_reducible refine HW.out.mono ?_); rintro e w2 ⟨rfl, hB2, hb2⟩; clear HW; have hbl2 : Bl w w2 := Below.trans hbl1 hb2; have HS := Lib.hid (str_c w.heap.size w.heap.size (out ++ rest) w2 hB2 (Below.size hbl2))) | (go_at_call 44; (with_reducible refine HS.out.mono ?_); rintro e w3 ⟨rfl, hb3⟩)); go_ret2; exact ⟨by rw [HK.out, HN.out]; simp, Below.trans hbl2 hb3⟩
def wht (c : UInt8) : Bool := decide (c.toNat = 9) || decide (c.toNat = 10) || decide (c.toNat = 12) || decide (c.toNat = 13) || decide (c.toNat = 32)
def fld (c : UInt8) : UInt8 := if 65 ≤ c.toNat ∧ c.toNat ≤ 90 then c + 32 else c
def fold (l : List UInt8) : List UInt8 := l.map fld
def lwr (c : UInt8) : Bool := decide (97 ≤ c.toNat) && decide (c.toNat ≤ 122)
def dgt (c : UInt8) : Bool := decide (48 ≤ c.toNat) && decide (c.toNat ≤ 57)
def ltr (c : UInt8) : Bool := lwr c || decide (65 ≤ c.toNat) && decide (c.toNat ≤ 90)
def nmc (c : UInt8) : Bool := lwr c || dgt c || decide (c.toNat = 45)
def isNm : List UInt8 → Bool
 | [] => false
 | c :: r => lwr c && r.all nmc && decide (r.length ≤ 19)
def wsl (c : UInt8) : Bool := wht c || decide (c.toNat = 47)
def nch (c : UInt8) : Bool := !wht c && decide (c.toNat ≠ 47) && decide (c.toNat ≠ 62) && decide (c.toNat ≠ 61)
def vch (c : UInt8) : Bool := !wht c && decide (c.toNat ≠ 62)
def tch (c : UInt8) : Bool := !wht c && decide (c.toNat ≠ 47) && decide (c.toNat ≠ 62)
theorem gb_refl (b : Option Nat) (w : World) : w.grownBy w b := ⟨rfl, rfl, rfl, Nat.le_refl _, fun _ _ _ => rfl⟩
theorem gb_trans {b : Option Nat} {x y z : World} (h : x.grownBy y b) (k : y.grownBy z b) : x.grownBy z b :=
 ⟨k.os.trans h.os, k.tape.trans h.tape, k.output.trans h.output, Nat.le_trans h.size k.size, fun i hi hne => (k.block i (Nat.lt_of_lt_of_le hi h.size) hne).trans (h.block i hi hne)⟩
theorem gb_bl {b : Option Nat} {w w' : World} (h : Bl w w') : w.grownBy w' b := ⟨Below.os h, Below.tape h, Below.output h, Below.size h, fun k hk _ => Below.block h k hk⟩
theorem gb_set {b : Nat} {x w : World} (h : x.grownBy w (some b)) (o : Nat) (v : Value) : x.grownBy (w.setCell ⟨b, o, none⟩ v) (some b) :=
 ⟨h.os, h.tape, h.output, by simpa using h.size, fun k hk hne => (Below.heap_setCell w ⟨b, o, none⟩ v k (by rintro rfl; exact hne rfl)).trans (h.block k hk hne)⟩
theorem gb_drewN {b : Option Nat} {x w : World} (h : x.grownBy w b) (n : Nat) : x.grownBy (w.drewN n) b := gb_trans h (gb_bl ((Bl.refl _).drewN n))
theorem gb_qt {b : Option Nat} {w w' : World} (h : Qt w w') : w.grownBy w' b := gb_bl h.bl
def Rk (w : World) (b : Nat) (s : List UInt8) (k : Nat) (x : List UInt8) (v : Value) : Prop :=
 w.heap[b]? = some (.cells #[.string ⟨s.toArray⟩, .int .i64 (k : Int), .string ⟨x.toArray⟩, v] 113 (0, 0))
theorem Rk.lt {w : World} {b k : Nat} {s x : List UInt8} {v : Value} (h : Rk w b s k x v) : b < w.heap.size := (Array.getElem?_eq_some_iff.1 h).1
theorem Rk.cells {w : World} {b k : Nat} {s x : List UInt8} {v : Value} (h : Rk w b s k x v) :
 w.cell? ⟨b, 0, none⟩ = some (.string ⟨s.toArray⟩) ∧ w.cell? ⟨b, 1, none⟩ = some (.int .i64 (k : Int)) ∧ w.cell? ⟨b, 2, none⟩ = some (.string ⟨x.toArray⟩) ∧ w.cell? ⟨b, 3, none⟩ = some v ∧
 w.frozen? ⟨b, 0, none⟩ = false ∧ w.frozen? ⟨b, 1, none⟩ = false ∧ w.frozen? ⟨b, 2, none⟩ = false ∧ w.frozen? ⟨b, 3, none⟩ = false := by
 unfold Rk at h; simp [World.cell?, World.frozen?, h]
theorem Rk.of_bl {w w' : World} {b k : Nat} {s x : List UInt8} {v : Value} (h : Rk w b s k x v) (hb : Bl w w') : Rk w' b s k x v := by
 have := h.lt; unfold Rk at *; rw [Below.block hb b this, h]
theorem Rk.set1 {w : World} {b k : Nat} {s x : List UInt8} {v : Value} (h : Rk w b s k x v) (j : Nat) : Rk (w.setCell ⟨b, 1, none⟩ (.int .i64 (j : Int))) b s j x v := by
 unfold Rk at *; simp [World.setCell, h, Array.getElem?_modify]
theorem Rk.seti {w : World} {b k : Nat} {s x : List UInt8} {v : Value} (h : Rk w b s k x v) {n : Int} {j : Nat} (e : n = (j : Int)) : Rk (w.setCell ⟨b, 1, none⟩ (.int .i64 n)) b s j x v := by
 subst e; exact h.set1 j
theorem Rk.set2 {w : World} {b k : Nat} {s x : List UInt8} {v : Value} (h : Rk w b s k x v) (y : List UInt8) : Rk (w.setCell ⟨b, 2, none⟩ (.string ⟨y.toArray⟩)) b s k y v := by
 unfold Rk at *; simp [World.setCell, h, Array.getElem?_modify]
theorem Rk.set3 {w : World} {b k : Nat} {s x : List UInt8} {v : Value} (h : Rk w b s k x v) (u : Value) : Rk (w.setCell ⟨b, 3, none⟩ u) b s k x u := by
 unfold Rk at *; simp [World.setCell, h, Array.getElem?_modify]
theorem Rk.of_gb {w w' : World} {b k : Nat} {s x : List UInt8} {v : Value} {g : Option Nat} (h : Rk w b s k x v) (hg : w.grownBy w' g) (hne : some b ≠ g) : Rk w' b s k x v := by
 have := h.lt; unfold Rk at *; rw [hg.block b this hne, h]
def atOf (b : Nat) (w : World) : Nat := match w.cell? ⟨b, 1, none⟩ with | some v => (intOf v).toNat | none => 0
theorem Rk.at_eq {w : World} {b k : Nat} {s x : List UInt8} {v : Value} (h : Rk w b s k x v) : atOf b w = k := by unfold atOf; rw [h.cells.2.1]; simp [intOf]
theorem white_c (c : UInt8) (w : World) : Calls Tryz.prog 52 #[.int .u8 (c.toNat : Int)] w fun e w' => e = .returned (.bool (wht c)) ∧ w = w' := by
 go_enter Tryz.func52, Tryz.ntmps52; go_wp2; all_goals
  go_ret; exact ⟨ret_bool (by rw [Bool.eq_iff_iff]; simp [wht]; omega), rfl⟩
theorem letter_c (c : UInt8) (w : World) : Calls Tryz.prog 180 #[.int .u8 (c.toNat : Int)] w fun e w' => e = .returned (.bool (ltr c)) ∧ w = w' := by
 go_enter Tryz.func180, Tryz.ntmps180; go_wp2; all_goals
  go_ret; exact ⟨ret_bool (by rw [Bool.eq_iff_iff]; simp [ltr, lwr]; omega), rfl⟩
theorem isWhite_c (c : UInt8) (w : World) : Calls Tryz.prog 36 #[.int .u8 (c.toNat : Int)] w fun e w' => e = .returned (.bool (wht c)) ∧ w = w' := by
 have := u8_lt c; go_enter Tryz.func36, Tryz.ntmps36; go_wp2_with (go_at_call 28; refine (between_c _ _ _ _).mono ?_; rintro e w' ⟨rfl, rfl⟩); all_goals
  go_ret; exact ⟨ret_bool (by rw [Bool.eq_iff_iff]; simp [wht]; omega), rfl⟩
theorem isLetter_c (c : UInt8) (w : World) : Calls Tryz.prog 95 #[.int .u8 (c.toNat : Int)] w fun e w' => e = .returned (.bool (ltr c)) ∧ w = w' := by
 have := u8_lt c; go_enter Tryz.func95, Tryz.ntmps95; go_wp2_with (go_at_call 28; refine (between_c _ _ _ _).mono ?_; rintro e w' ⟨rfl, rfl⟩); all_goals
  go_ret; exact ⟨ret_bool (by rw [Bool.eq_iff_iff]; simp [ltr, lwr]; omega), rfl⟩
def posN (k : Nat) (c : UInt8) : Bool := if k = 0 then lwr c else nmc c
theorem posN_iff (k : Nat) (c : UInt8) : posN k c = true ↔ (97 ≤ c.toNat ∧ c.toNat ≤ 122) ∨ (k ≠ 0 ∧ (48 ≤ c.toNat ∧ c.toNat ≤ 57 ∨ c.toNat = 45)) := by
 unfold posN; by_cases h : k = 0
 · simp [h, lwr]
 · simp [h, nmc, lwr, dgt]; omega
theorem posN_no {k : Nat} {c : UInt8} (h : ¬ ((97 ≤ c.toNat ∧ c.toNat ≤ 122) ∨ (k ≠ 0 ∧ (48 ≤ c.toNat ∧ c.toNat ≤ 57 ∨ c.toNat = 45)))) : posN k c = false := by
 rw [← posN_iff] at h; simpa using h
theorem isNm_pos (l : List UInt8) (hp : ∀ i (h : i < l.length), posN i l[i] = true) (hl : l.length ≤ 20) (h0 : l ≠ []) : isNm l = true := by
 cases l with
 | nil => exact absurd rfl h0
 | cons c r =>
   have h1 := hp 0 (by simp); simp only [List.getElem_cons_zero, posN, if_true] at h1; simp only [isNm, h1, Bool.true_and, Bool.and_eq_true, decide_eq_true_eq, List.all_eq_true]; refine ⟨fun x hx => ?_, by simpa using hl⟩; obtain ⟨i, hi, rfl⟩ := List.mem_iff_getElem.1 hx; have := hp (i + 1) (by simpa using hi); simpa [posN] using this
theorem isNm_no (l : List UInt8) (i : Nat) (h : i < l.length) (hp : posN i l[i] = false) : isNm l = false := by
 cases l with
 | nil => rfl
 | cons c r =>
   cases i with
   | zero => simp only [List.getElem_cons_zero, posN, if_true] at hp; simp [isNm, hp]
   | succ i =>
     simp only [List.getElem_cons_succ, posN] at hp; have : r.all nmc = false := by rw [List.all_eq_false]; exact ⟨r[i]'(by simpa using h), List.getElem_mem _, by simpa using hp⟩
     simp [isNm, this]
theorem isNm_long (l : List UInt8) (h : 20 < l.length ∨ l = []) : isNm l = false := by
 cases l with
 | nil => rfl
 | cons c r =>
   rcases h with h | h
   · simp only [List.length_cons] at h; have : ¬ r.length ≤ 19 := by omega
     simp [isNm, this]
   · cases h
theorem name_c (l : List UInt8) (hl : l.length ≤ 4611686018427387904) (w : World) : Calls Tryz.prog 183 #[.string ⟨l.toArray⟩] w fun e w' => e = .returned (.bool (isNm l)) ∧ w = w' := by
 go_enter Tryz.func183, Tryz.ntmps183; go_wp2; go_loop [7] (fun i => ∃ k : Nat, k ≤ l.length ∧ i = .int .i64 k ∧ Hid (∀ i (h : i < l.length), i < k → posN i l[i] = true)) (fun i => l.length - (intOf i).toNat); case atStart => exact ⟨0, Nat.zero_le _, rfl, Lib.hid (fun i _ h => by omega)⟩
 case round =>
  obtain ⟨k, hk, rfl, HP⟩ := hrel; by_cases hlt : k < l.length
  · have hc := u8_lt l[k]; have hcase : ((97 : Int) ≤ (l[k].toNat : Int) ∧ (l[k].toNat : Int) ≤ 122) ∨ ((l[k].toNat : Int) < 97 ∧ ((k : Int) == 0) = true) ∨ ((122 : Int) < (l[k].toNat : Int) ∧ ((k : Int) == 0) = true) ∨ (((l[k].toNat : Int) < 48 ∧ ((l[k].toNat : Int) != 45) = true) ∧ ((k : Int) == 0) = false) ∨ ((l[k].toNat : Int) = 45 ∧ ((k : Int) == 0) = false) ∨ (((48 : Int) ≤ (l[k].toNat : Int) ∧ (l[k].toNat : Int) ≤ 57) ∧ ((k : Int) == 0) = false) ∨ (((57 : Int) < (l[k].toNat : Int) ∧ (l[k].toNat : Int) < 97) ∧ ((k : Int) == 0) = false) ∨ ((122 : Int) < (l[k].toNat : Int) ∧ ((k : Int) == 0) = false) := by
     simp only [beq_iff_eq, beq_eq_false_iff_ne, bne_iff_ne, ne_eq]; omega
    rcases hcase with ⟨c1, c2⟩ | ⟨c1, c2⟩ | ⟨c1, c2⟩ | ⟨⟨c1, c2⟩, c3⟩ | ⟨c1, c2⟩ | ⟨⟨c1, c2⟩, c3⟩ | ⟨⟨c1, c2⟩, c3⟩ | ⟨c1, c2⟩; all_goals
     have HQ := Lib.hid (And.intro c1 c2); try have HQ3 := Lib.hid c3
     go_wp2; all_goals first
      | (exfalso
         simp only [Bool.not_eq_false', Bool.not_eq_true', decide_eq_true_eq, decide_eq_false_iff_not, bne_eq_false_iff_eq, bne_iff_ne, beq_iff_eq, beq_eq_false_iff_ne, ne_eq] at *; omega)
      | (go_round
         case rel =>
          refine ⟨k + 1, by omega, by go_num, Lib.hid (fun i h hi => ?_)⟩; by_cases e : i = k
          · subst e; have hq := HQ.out; try have hq3 := HQ3.out
            try simp only [beq_eq_false_iff_ne, ne_eq] at hq
            try simp only [beq_eq_false_iff_ne, ne_eq] at hq3
            rw [posN_iff]; omega
          · exact HP.out i h (by omega)
         case measure => simp [intOf]; omega)
      | (go_ret
         have hq := HQ.out; try have hq3 := HQ3.out
         try simp only [beq_iff_eq, beq_eq_false_iff_ne, bne_iff_ne, ne_eq] at hq
         try simp only [beq_eq_false_iff_ne, ne_eq] at hq3
         exact ⟨ret_bool (isNm_no l k hlt (posN_no (by omega))).symm, rfl⟩)
  · by_cases h0 : l = []
    · subst h0; go_wp2; go_ret; exact ⟨rfl, rfl⟩
    · have hne : l.isEmpty = false := by cases l <;> simp_all
      have HE := Lib.hid h0; by_cases h20 : l.length ≤ 20
      · have HN := Lib.hid (isNm_pos l (fun i h => HP.out i h (by omega)) h20 h0); have h20' : (l.length : Int) ≤ 20 := by omega
        go_wp2; go_ret; exact ⟨by rw [HN.out]; exact ret_bool (by have := HE.out; simp [] <;> omega), rfl⟩
      · have HN := Lib.hid (isNm_long l (Or.inl (by omega))); go_wp2; go_ret; exact ⟨by rw [HN.out]; exact ret_bool (by have := HE.out; simp [] <;> omega), rfl⟩
theorem isName_c (l : List UInt8) (hl : l.length ≤ 4611686018427387904) (w : World) : Calls Tryz.prog 105 #[.string ⟨l.toArray⟩] w fun e w' => e = .returned (.bool (isNm l)) ∧ w = w' := by
 by_cases h20 : 1 ≤ l.length ∧ l.length ≤ 20
 · obtain ⟨h1, h2⟩ := h20; have h1' : (1 : Int) ≤ (l.length : Int) := by omega
   have h2' : (l.length : Int) ≤ 20 := by omega
   go_enter Tryz.func105, Tryz.ntmps105; go_wp2_with (go_at_call 28; refine (between_c _ _ _ _).mono ?_; rintro e w' ⟨rfl, rfl⟩); go_loop [3] (fun i => ∃ k : Nat, k ≤ l.length ∧ i = .int .i64 k ∧ Hid (∀ i (h : i < l.length), i < k → posN i l[i] = true)) (fun i => l.length - (intOf i).toNat); case atStart => exact ⟨0, Nat.zero_le _, rfl, Lib.hid (fun i _ h => by omega)⟩
   case round =>
    obtain ⟨k, hk, rfl, HP⟩ := hrel; by_cases hlt : k < l.length
    · have hc := u8_lt l[k]; have hcase : ((97 : Int) ≤ (l[k].toNat : Int) ∧ (l[k].toNat : Int) ≤ 122) ∨ ((l[k].toNat : Int) < 97 ∧ ((k : Int) == 0) = true) ∨ ((122 : Int) < (l[k].toNat : Int) ∧ ((k : Int) == 0) = true) ∨ (((l[k].toNat : Int) < 48 ∧ ((l[k].toNat : Int) != 45) = true) ∧ ((k : Int) == 0) = false) ∨ ((l[k].toNat : Int) = 45 ∧ ((k : Int) == 0) = false) ∨ (((48 : Int) ≤ (l[k].toNat : Int) ∧ (l[k].toNat : Int) ≤ 57) ∧ ((k : Int) == 0) = false) ∨ (((57 : Int) < (l[k].toNat : Int) ∧ (l[k].toNat : Int) < 97) ∧ ((k : Int) == 0) = false) ∨ ((122 : Int) < (l[k].toNat : Int) ∧ ((k : Int) == 0) = false) := by
       simp only [beq_iff_eq, beq_eq_false_iff_ne, bne_iff_ne, ne_eq]; omega
      rcases hcase with ⟨c1, c2⟩ | ⟨c1, c2⟩ | ⟨c1, c2⟩ | ⟨⟨c1, c2⟩, c3⟩ | ⟨c1, c2⟩ | ⟨⟨c1, c2⟩, c3⟩ | ⟨⟨c1, c2⟩, c3⟩ | ⟨c1, c2⟩; all_goals
       have HQ := Lib.hid (And.intro c1 c2); try have HQ3 := Lib.hid c3
       go_wp2_with (go_at_call 28; refine (between_c _ _ _ _).mono ?_; rintro e w' ⟨rfl, rfl⟩); all_goals first
        | (exfalso
           simp only [Bool.not_eq_false', Bool.not_eq_true', decide_eq_true_eq, decide_eq_false_iff_not, bne_eq_false_iff_eq, bne_iff_ne, beq_iff_eq, beq_eq_false_iff_ne, ne_eq] at *; omega)
        | (go_round
           case rel =>
            refine ⟨k + 1, by omega, by go_num, Lib.hid (fun i h hi => ?_)⟩; by_cases e : i = k
            · subst e; have hq := HQ.out; try have hq3 := HQ3.out
              try simp only [beq_eq_false_iff_ne, ne_eq] at hq
              try simp only [beq_eq_false_iff_ne, ne_eq] at hq3
              rw [posN_iff]; omega
            · exact HP.out i h (by omega)
           case measure => simp [intOf]; omega)
        | (go_ret
           have hq := HQ.out; try have hq3 := HQ3.out
           try simp only [beq_iff_eq, beq_eq_false_iff_ne, bne_iff_ne, ne_eq] at hq
           try simp only [beq_eq_false_iff_ne, ne_eq] at hq3
           exact ⟨ret_bool (isNm_no l k hlt (posN_no (by omega))).symm, rfl⟩)
    · have HN := Lib.hid (isNm_pos l (fun i h => HP.out i h (by omega)) h2 (by rintro rfl; simp at h1)); go_wp2; go_ret; exact ⟨by rw [HN.out]; rfl, rfl⟩
 · have HN := Lib.hid (isNm_long l (by
    rcases Nat.lt_or_ge 20 l.length with h | h
    · exact Or.inl h
    · exact Or.inr (List.eq_nil_of_length_eq_zero (by omega))))
   have h20' : (decide ((1 : Int) ≤ (l.length : Int)) && decide ((l.length : Int) ≤ 20)) = false := by
    cases h : (decide ((1 : Int) ≤ (l.length : Int)) && decide ((l.length : Int) ≤ 20))
    · rfl
    · simp only [Bool.and_eq_true, decide_eq_true_eq] at h; omega
   have H20 := Lib.hid h20; clear h20; go_enter Tryz.func105, Tryz.ntmps105; go_wp2_with (go_at_call 28; refine (between_c _ _ _ _).mono ?_; rintro e w' ⟨rfl, rfl⟩); all_goals first
    | (go_ret
       exact ⟨by rw [HN.out]; rfl, rfl⟩)
    | (exfalso; have := H20.out; omega)
end Go.Proofs.YtamdlihgecpbkaaGreatDoor

/- sign and Taken of the program. · Signs that are taken: the reference. · Tokens: the reader's small steps. · Tokens: the closures that tell kinds of bytes; need, begins, letterAt, to, Folded. · Tokens: the reader's steps, said by what is left of the text; begins, letterAt, to, Folded. -/
import Derived.Test.YtkacjnifhmgeiaaGreatDoorEscH
import Derived.Test.YtkacjnifhmgeiaaGreatDoorGrpF
import Derived.Test.YtkacjnifhmgeiaaGreatDoorGrpE
namespace Go.Proofs.YtkacjnifhmgeiaaGreatDoor
open Go.RowKit

set_option maxRecDepth 100000 in
set_option maxHeartbeats 2000000 in
theorem sign_c (t : List UInt8) (hl : t.length ≤ 4611686018427387904) (w : World) (hE : ES w) :
    Calls Tryz.prog 74 #[.string ⟨t.toArray⟩] w fun e w' => e = .returned (.tuple #[.string ⟨(sgn t).1.toArray⟩, .int .i64 (sgn t).2.1, .bool (sgn t).2.2]) ∧ Bl w w' := by
  have NC := Lib.hid (fun W => named_c t W)
  have UC := Lib.hid (fun W hW => numbered_c t hl W hW)
  by_cases h0 : 0 < (nmd t).2
  · have HS := Lib.hid (show sgn t = ((nmd t).1, (nmd t).2, true) by unfold sgn; rw [if_pos h0])
    have h0' : (0 : Int) < ((nmd t).2 : Int) := by omega
    go_enter Tryz.func74, Tryz.ntmps74
    go_wp2_with (go_at_call 89; (with_reducible refine (NC.out _).mono ?_); rintro e w' ⟨rfl, hb⟩)
    go_ret3
    exact ⟨by rw [HS.out]; rfl, hb⟩
  have h0' : ¬ (0 : Int) < ((nmd t).2 : Int) := by omega
  cases h1 : (((nbr t).2 : Int) == 0)
  · have h1' : ¬ (nbr t).2 = 0 := by have := ne_of_beq_false h1; omega
    cases h2 : scl (nbr t).1
    · have HS := Lib.hid (show sgn t = ([239, 191, 189], (nbr t).2, false) by unfold sgn; rw [if_neg h0, if_neg h1', h2]; rfl)
      go_enter Tryz.func74, Tryz.ntmps74
      go_wp2_with (first | (go_at_call 89; (with_reducible refine (NC.out _).mono ?_); rintro e w' ⟨rfl, hb⟩; have hE' := hE.of_bl hb) | (go_at_call 90; (with_reducible refine (UC.out _ hE').mono ?_); rintro e w'' ⟨rfl, hb'⟩) | (go_at_call 91; refine (scalar_c _ _).mono ?_; rintro e w3 ⟨rfl, rfl⟩))
      go_ret3
      exact ⟨by rw [HS.out]; rfl, hb.trans hb'⟩
    · have HS := Lib.hid (show sgn t = (rowL (nbr t).1, (nbr t).2, true) by unfold sgn; rw [if_neg h0, if_neg h1', h2]; rfl)
      have hs2 : 0 < (nbr t).1 ∧ (nbr t).1 ≤ 1114111 := by simp [scl] at h2; omega
      obtain ⟨hs3, hs4⟩ := hs2
      go_enter Tryz.func74, Tryz.ntmps74
      go_wp2_with (first | (go_at_call 89; (with_reducible refine (NC.out _).mono ?_); rintro e w' ⟨rfl, hb⟩; have hE' := hE.of_bl hb) | (go_at_call 90; (with_reducible refine (UC.out _ hE').mono ?_); rintro e w'' ⟨rfl, hb'⟩) | (go_at_call 91; refine (scalar_c _ _).mono ?_; rintro e w3 ⟨rfl, rfl⟩) | go_quiet (fail))
      go_ret3
      exact ⟨by rw [HS.out]; rfl, hb.trans hb'⟩
  · have h1' : (nbr t).2 = 0 := by have := eq_of_beq h1; omega
    have HS := Lib.hid (show sgn t = ([38], 0, false) by unfold sgn; rw [if_neg h0, if_pos h1'])
    clear h1'
    go_enter Tryz.func74, Tryz.ntmps74
    go_wp2_with (first | (go_at_call 89; (with_reducible refine (NC.out _).mono ?_); rintro e w' ⟨rfl, hb⟩; have hE' := hE.of_bl hb) | (go_at_call 90; (with_reducible refine (UC.out _ hE').mono ?_); rintro e w'' ⟨rfl, hb'⟩))
    go_ret3
    exact ⟨by rw [HS.out]; rfl, hb.trans hb'⟩

/-- A builder that holds these bytes; new since B. -/
def Bu (B b : Nat) (l : List UInt8) (w : World) : Prop := Lib.IsBuilder 78 5 B b (Lib.byteCells l) w
theorem BuilderAt.of_bl {T e : TypeId} {B b : Nat} {p : Value} {bs : List Value} {w w' : World} (h : Lib.BuilderAt T e B b p bs w) (hb : Bl w w') : Lib.BuilderAt T e B b p bs w' := by
  obtain ⟨hB, v, hk, hown, hne⟩ := h
  have hlt : b < w.heap.size := (Array.getElem?_eq_some_iff.1 hk).1
  refine ⟨hB, v, (Below.block hb b hlt).trans hk, ⟨hown.1, ?_⟩, hne⟩
  rcases hown.2 with h | ⟨g, cap, cur, h1, h2, h3, h4⟩
  · exact Or.inl h
  · exact Or.inr ⟨g, cap, cur, h1, h2, (Below.block hb g (Array.getElem?_eq_some_iff.1 h3).1).trans h3, h4⟩
theorem Bu.of_bl {B b : Nat} {l : List UInt8} {w w' : World} (h : Bu B b l w) (hb : Bl w w') : Bu B b l w' := by
  rcases h with h | h
  · exact Or.inl (BuilderAt.of_bl h hb)
  · exact Or.inr (BuilderAt.of_bl h hb)
theorem wr_c (B b : Nat) (l a : List UInt8) (w : World) (h : Bu B b l w) (hlen : l.length + a.length ≤ 140737488355328) (hBw : B ≤ w.heap.size) :
    Calls Tryz.prog 73 #[.pointer (some ⟨b, 0, none⟩), .string ⟨a.toArray⟩] w fun e w' => e = .returned (.tuple #[.int .i64 a.length, .nilIface]) ∧ Bu B b (l ++ a) w' ∧ Below B w w' := by
  refine (write_c B b (Lib.byteCells l) ⟨a.toArray⟩ w h (by rw [Lib.byteCells_length]; exact hlen) hBw).mono ?_
  rintro e w' ⟨rfl, h1, h2⟩
  exact ⟨rfl, by unfold Bu; rw [Lib.byteCells_append]; exact Or.inr h1, h2⟩
theorem str_c (B b : Nat) (l : List UInt8) (w : World) (h : Bu B b l w) (hBw : B ≤ w.heap.size) :
    Calls Tryz.prog 75 #[.pointer (some ⟨b, 0, none⟩)] w fun e w' => e = .returned (.string ⟨l.toArray⟩) ∧ Below B w w' :=
  Tryz.Builder_String_any B b l w h hBw

def strLen : Value → Nat | .string s => s.size | _ => 0
set_option maxRecDepth 100000 in
set_option maxHeartbeats 4000000 in
theorem taken_c (l : List UInt8) (hl : l.length ≤ 1099511627776) (w : World) (hE : ES w) :
    Calls Tryz.prog 55 #[.string ⟨l.toArray⟩] w fun e w' => e = .returned (.tuple #[.string ⟨(Tk l).1.toArray⟩, .bool (Tk l).2]) ∧ Bl w w' := by
  go_enter Tryz.func55, Tryz.ntmps55
  go_wp2
  go_loopw [0, 5] (fun s0 s5 wr => ∃ (rest out : List UInt8) (al : Bool), s0 = .string ⟨rest.toArray⟩ ∧ s5 = .bool al ∧ Hid (Tk l = (out ++ (Tk rest).1, al && (Tk rest).2)) ∧ rest.length ≤ l.length ∧ Bu w.heap.size w.heap.size out wr ∧ Bl w wr) (fun s0 _ _ => strLen s0)
  case atStart => exact ⟨l, [], true, rfl, rfl, Lib.hid (by simp), Nat.le_refl _, Or.inl ⟨Nat.le_refl _, .slice none 0 0, heap_alloc_last _ _, ⟨rfl, Or.inl ⟨rfl, rfl⟩⟩, by simp [Value.ownBlock]⟩, (Bl.refl _).alloc _⟩
  case round =>
    obtain ⟨rest, out, al, rfl, rfl, HK, hr, hB, hbl⟩ := hrel
    have hol : out.length ≤ 4 * l.length := by
      have h1 := Tk_len l.length l (Nat.le_refl _)
      rw [HK.out] at h1
      simp only [List.length_append] at h1; omega
    have hBs := Below.size hbl
    by_cases hn : rest = []
    · subst hn
      have HS := Lib.hid (fun W h hW => str_c w.heap.size w.heap.size out W h hW)
      go_wp2_with (go_at_call 75; (with_reducible refine (HS.out _ hB hBs).mono ?_); rintro e w' ⟨rfl, hb⟩)
      go_ret2
      exact ⟨by rw [HK.out]; simp [Tk_nil], Below.trans hbl hb⟩
    have hemp : rest.isEmpty = false := by cases rest <;> simp_all
    have hrl : 0 < rest.length := List.length_pos_iff.2 hn
    have CC := Lib.hid (fun W => cut_c rest 38 (by omega) W)
    have hbf := bef_len 38 rest
    have haf := aft_len 38 rest
    by_cases hm : 38 ∈ rest
    · have hK := HK.out
      rw [Tk_cut rest hm, Tk_amp] at hK
      have hs := sgn_len (38 :: aft 38 rest)
      obtain ⟨sg, hsg⟩ : ∃ sg, sg = sgn (38 :: aft 38 rest) := ⟨_, rfl⟩
      have SC := Lib.hid (fun W hW => sign_c (38 :: aft 38 rest) (by simp; omega) W hW)
      rw [← hsg] at hK hs SC
      obtain ⟨t, n, ok⟩ := sg
      simp only [List.length_cons] at hs hK SC
      obtain ⟨hs1, hs2⟩ := hs
      have hlen : rest.length = (bef 38 rest).length + 1 + (aft 38 rest).length := by
        rcases ixb 38 rest with ⟨_, _, h3⟩ | ⟨h, _⟩
        · have := congrArg List.length h3; simp at this; omega
        · exact absurd hm h
      have HM := Lib.hid (decide_eq_true hm)
      have HK2 := Lib.hid hK
      obtain ⟨a, ha⟩ : ∃ a, a = bef 38 rest := ⟨_, rfl⟩
      obtain ⟨c, hc⟩ : ∃ c, c = aft 38 rest := ⟨_, rfl⟩
      rw [HM.out, ← ha, ← hc] at CC
      rw [← hc] at SC HK2 hs2 haf
      rw [← ha] at hbf HK2
      rw [← ha, ← hc] at hlen
      clear hK hsg ha hc HM hm
      go_wp2_with (first | (go_at_call 72; (with_reducible refine (CC.out _).mono ?_); rintro e w1 ⟨rfl, hq⟩; have hbl1 := hbl.trans hq.bl; have hB1 := hB.of_bl hq.bl; have HW := Lib.hid (wr_c w.heap.size w.heap.size out a w1 hB1 (by omega) (Below.size hbl1))) | (go_at_call 73; (with_reducible refine HW.out.mono ?_); rintro e w2 ⟨rfl, hB2, hb2⟩; clear HW; have hbl2 : Bl w w2 := Below.trans hbl1 hb2; have HS := Lib.hid (SC.out w2 (hE.of_bl hbl2))) | (go_at_call 74; refine HS.out.mono ?_; rintro e w3 ⟨rfl, hb3⟩; clear HS; have hbl3 := hbl2.trans hb3; have hB3 := hB2.of_bl hb3; have HW2 := Lib.hid (wr_c w.heap.size w.heap.size (out ++ a) t w3 hB3 (by simp; omega) (Below.size hbl3))) | (go_at_call 73; (with_reducible refine HW2.out.mono ?_); rintro e w4 ⟨rfl, hB4, hb4⟩; clear HW2; have hbl4 : Bl w w4 := Below.trans hbl3 hb4))
      all_goals
        have hmx : (max 0 ((n : Int) - 1)).toNat = n - 1 := by rw [Int.max_def]; split <;> omega
        have hsm : strLen (Value.string ⟨(List.drop (n - 1) c).toArray⟩) < strLen (Value.string ⟨rest.toArray⟩) := by
          simp only [strLen, ByteArray.size, List.size_toArray, List.length_drop]; omega
        rw [hmx]
      · obtain rfl : al = true := by assumption
        exact ⟨⟨List.drop (n - 1) c, out ++ a ++ t, ok, rfl, rfl, Lib.hid (by rw [HK2.out]; simp), by simp; omega, hB4, hbl4⟩, hsm⟩
      · obtain rfl : al = false := by
          have h : ¬ al = true := by assumption
          simpa using h
        exact ⟨⟨List.drop (n - 1) c, out ++ a ++ t, false, rfl, rfl, Lib.hid (by rw [HK2.out]; simp), by simp; omega, hB4, hbl4⟩, hsm⟩
    · have HN := Lib.hid (Tk_none rest hm)
      have HM := Lib.hid (decide_eq_false hm)
      have hbef : bef 38 rest = rest := by
        rcases ixb 38 rest with ⟨h, _⟩ | ⟨_, _, h, _⟩
        · exact absurd h hm
        · exact h
      rw [HM.out, hbef] at CC
      clear hbef hm hbf haf
      go_wp2_with (first | (go_at_call 72; (with_reducible refine (CC.out _).mono ?_); rintro e w1 ⟨rfl, hq⟩; have hbl1 := hbl.trans hq.bl; have hB1 := hB.of_bl hq.bl; have HW := Lib.hid (wr_c w.heap.size w.heap.size out rest w1 hB1 (by omega) (Below.size hbl1))) | (go_at_call 73; (with_reducible refine HW.out.mono ?_); rintro e w2 ⟨rfl, hB2, hb2⟩; clear HW; have hbl2 : Bl w w2 := Below.trans hbl1 hb2; have HS := Lib.hid (str_c w.heap.size w.heap.size (out ++ rest) w2 hB2 (Below.size hbl2))) | (go_at_call 75; (with_reducible refine HS.out.mono ?_); rintro e w3 ⟨rfl, hb3⟩))
      go_ret2
      exact ⟨by rw [HK.out, HN.out]; simp, Below.trans hbl2 hb3⟩
end Go.Proofs.YtkacjnifhmgeiaaGreatDoor

namespace Go.Proofs.YtkacjnifhmgeiaaGreatDoor
open Go.RowKit

theorem startsAt_c (s p : List UInt8) (at' : Nat) (hs : s.length ≤ 4611686018427387904) (hp : p.length ≤ 1000) (h : at' ≤ s.length) (w : World) :
    Calls Tryz.prog 47 #[.string ⟨s.toArray⟩, .int .i64 (at' : Int), .string ⟨p.toArray⟩] w fun e w' => e = .returned (.bool (pre p (s.drop at'))) ∧ w = w' := by
  have hq := pre_iff p (s.drop at')
  simp only [List.length_drop] at hq
  have HQ := Lib.hid hq
  clear hq
  have h0 : (0 : Int) ≤ (at' : Int) := by omega
  have h0' : decide ((0 : Int) ≤ (at' : Int)) = true := by simp
  by_cases hl : p.length ≤ s.length - at'
  · have hl1 : (p.length : Int) ≤ (s.length : Int) - (at' : Int) := by omega
    have hl2 : (at' : Int) + (p.length : Int) ≤ (s.length : Int) := by omega
    have hl3 : at' + p.length ≤ s.length := by omega
    have hl4 : (at' : Int) ≤ (at' : Int) + (p.length : Int) := by omega
    have HL := Lib.hid hl
    clear hl
    go_enter Tryz.func47, Tryz.ntmps47
    go_wp2
    go_ret
    exact ⟨ret_bool (by rw [HQ.out, decide_eq_true HL.out]; simp), rfl⟩
  · have hl1 : ¬ (p.length : Int) ≤ (s.length : Int) - (at' : Int) := by omega
    have HL := Lib.hid hl
    clear hl
    go_enter Tryz.func47, Tryz.ntmps47
    go_wp2
    go_ret
    exact ⟨ret_bool (by rw [HQ.out, decide_eq_false HL.out]; rfl), rfl⟩

/-- A row of cells of bytes reads as a string. -/
theorem conv_row (W : World) (g : Nat) (l : List UInt8) (h : BA W g l) (n : Nat) (hn : n = l.length) : (convert 76 9 (.slice (some ⟨g, 0, none⟩) n n)).run Tryz.prog W = .ok (.string ⟨l.toArray⟩) W := by
  subst hn
  have h1 := run_convert_bytes_arg (P := Tryz.prog) W 76 5 Tryz.underlying76 Tryz.underlying5 g 0 l.length l.length (l.map fun c => (c.toNat : Int)) (by simp) (fun i hi => by
    rw [Nat.zero_add, h i hi]
    simp [List.getD, hi]) 9 Tryz.underlying9
  have e : (l.map fun c => (c.toNat : Int)).map (fun n => UInt8.ofNat n.toNat) = l := by
    rw [List.map_map]
    exact (List.map_congr_left (fun c _ => by simp)).trans (List.map_id l)
  rw [h1, strOfNums, e]
theorem cv1 (W : World) (b : Nat) (x : Int) (hx : W.cell? ⟨b, 0, none⟩ = some (.int .u8 x)) : (convert 76 9 (.slice (some ⟨b, 0, none⟩) 1 1)).run Tryz.prog W = .ok (.string ⟨[UInt8.ofNat x.toNat].toArray⟩) W :=
  run_convert_bytes_arg (P := Tryz.prog) W 76 5 Tryz.underlying76 Tryz.underlying5 b 0 1 1 [x] rfl (fun i hi => by
    obtain rfl : i = 0 := by omega
    exact hx) 9 Tryz.underlying9
theorem cv2 (W : World) (b : Nat) (x y : Int) (hx : W.cell? ⟨b, 0, none⟩ = some (.int .u8 x)) (hy : W.cell? ⟨b, 1, none⟩ = some (.int .u8 y)) : (convert 76 9 (.slice (some ⟨b, 0, none⟩) 2 2)).run Tryz.prog W = .ok (.string ⟨[UInt8.ofNat x.toNat, UInt8.ofNat y.toNat].toArray⟩) W :=
  run_convert_bytes_arg (P := Tryz.prog) W 76 5 Tryz.underlying76 Tryz.underlying5 b 0 2 2 [x, y] rfl (fun i hi => by
    have : i = 0 ∨ i = 1 := by omega
    rcases this with rfl | rfl
    · exact hx
    · exact hy) 9 Tryz.underlying9
theorem cv3 (W : World) (b : Nat) (x y z : Int) (hx : W.cell? ⟨b, 0, none⟩ = some (.int .u8 x)) (hy : W.cell? ⟨b, 1, none⟩ = some (.int .u8 y)) (hz : W.cell? ⟨b, 2, none⟩ = some (.int .u8 z)) : (convert 76 9 (.slice (some ⟨b, 0, none⟩) 3 3)).run Tryz.prog W = .ok (.string ⟨[UInt8.ofNat x.toNat, UInt8.ofNat y.toNat, UInt8.ofNat z.toNat].toArray⟩) W :=
  run_convert_bytes_arg (P := Tryz.prog) W 76 5 Tryz.underlying76 Tryz.underlying5 b 0 3 3 [x, y, z] rfl (fun i hi => by
    have : i = 0 ∨ i = 1 ∨ i = 2 := by omega
    rcases this with rfl | rfl | rfl
    · exact hx
    · exact hy
    · exact hz) 9 Tryz.underlying9
theorem cv4 (W : World) (b : Nat) (x y z u : Int) (hx : W.cell? ⟨b, 0, none⟩ = some (.int .u8 x)) (hy : W.cell? ⟨b, 1, none⟩ = some (.int .u8 y)) (hz : W.cell? ⟨b, 2, none⟩ = some (.int .u8 z)) (hu : W.cell? ⟨b, 3, none⟩ = some (.int .u8 u)) : (convert 76 9 (.slice (some ⟨b, 0, none⟩) 4 4)).run Tryz.prog W = .ok (.string ⟨[UInt8.ofNat x.toNat, UInt8.ofNat y.toNat, UInt8.ofNat z.toNat, UInt8.ofNat u.toNat].toArray⟩) W :=
  run_convert_bytes_arg (P := Tryz.prog) W 76 5 Tryz.underlying76 Tryz.underlying5 b 0 4 4 [x, y, z, u] rfl (fun i hi => by
    have : i = 0 ∨ i = 1 ∨ i = 2 ∨ i = 3 := by omega
    rcases this with rfl | rfl | rfl | rfl
    · exact hx
    · exact hy
    · exact hz
    · exact hu) 9 Tryz.underlying9
theorem rowL_1 (n : Int) (h0 : 0 < n) (h1 : n < 128) : rowL n = [UInt8.ofNat n.toNat] := by
  have hv : Utf8.valid n = true := by simp [Utf8.valid]; omega
  unfold rowL Utf8.encode
  rw [hv]
  simp only [if_true]
  rw [if_pos (by omega)]
theorem rowL_2 (n : Int) (h0 : 128 ≤ n) (h1 : n < 2048) : rowL n = [UInt8.ofNat (192 + n / 64).toNat, UInt8.ofNat (128 + n % 64).toNat] := by
  have hv : Utf8.valid n = true := by simp [Utf8.valid]; omega
  unfold rowL Utf8.encode
  rw [hv]
  simp only [if_true]
  rw [if_neg (by omega), if_pos (by omega), show (192 + n / 64).toNat = 192 + n.toNat / 64 by omega, show (128 + n % 64).toNat = 128 + n.toNat % 64 by omega]
theorem rowL_3 (n : Int) (h0 : 2048 ≤ n) (h1 : n < 65536) (h2 : n < 55296 ∨ 57343 < n) : rowL n = [UInt8.ofNat (224 + n / 4096).toNat, UInt8.ofNat (128 + n / 64 % 64).toNat, UInt8.ofNat (128 + n % 64).toNat] := by
  have hv : Utf8.valid n = true := by simp [Utf8.valid]; omega
  unfold rowL Utf8.encode
  rw [hv]
  simp only [if_true]
  rw [if_neg (by omega), if_neg (by omega), if_pos (by omega), show (224 + n / 4096).toNat = 224 + n.toNat / 4096 by omega, show (128 + n / 64 % 64).toNat = 128 + n.toNat / 64 % 64 by omega, show (128 + n % 64).toNat = 128 + n.toNat % 64 by omega]
theorem rowL_4 (n : Int) (h0 : 65536 ≤ n) (h1 : n ≤ 1114111) : rowL n = [UInt8.ofNat (240 + n / 262144).toNat, UInt8.ofNat (128 + n / 4096 % 64).toNat, UInt8.ofNat (128 + n / 64 % 64).toNat, UInt8.ofNat (128 + n % 64).toNat] := by
  have hv : Utf8.valid n = true := by simp [Utf8.valid]; omega
  unfold rowL Utf8.encode
  rw [hv]
  simp only [if_true]
  rw [if_neg (by omega), if_neg (by omega), if_neg (by omega), show (240 + n / 262144).toNat = 240 + n.toNat / 262144 by omega, show (128 + n / 4096 % 64).toNat = 128 + n.toNat / 4096 % 64 by omega, show (128 + n / 64 % 64).toNat = 128 + n.toNat / 64 % 64 by omega, show (128 + n % 64).toNat = 128 + n.toNat % 64 by omega]
set_option maxHeartbeats 2000000 in
/-- The row of a code point. -/
theorem row_c (n : Int) (h0 : 0 < n) (h1 : n ≤ 1114111) (h2 : n < 55296 ∨ 57343 < n) (w : World) :
    Calls Tryz.prog 99 #[.int .i64 n] w fun e w' => e = .returned (.string ⟨(rowL n).toArray⟩) ∧ Bl w w' := by
  have c1 := cv1
  have c2 := cv2
  have c3 := cv3
  have c4 := cv4
  by_cases a1 : n < 128
  · have HR := Lib.hid (rowL_1 n h0 a1)
    go_enter Tryz.func99, Tryz.ntmps99
    go_wp2
    go_ret
    exact ⟨by rw [HR.out]; rfl, by repeat (first | exact Bl.refl _ | refine Bl.alloc ?_ _)⟩
  by_cases a2 : n < 2048
  · have HR := Lib.hid (rowL_2 n (by omega) a2)
    go_enter Tryz.func99, Tryz.ntmps99
    go_wp2
    go_ret
    exact ⟨by rw [HR.out]; rfl, by repeat (first | exact Bl.refl _ | refine Bl.alloc ?_ _)⟩
  by_cases a3 : n < 65536
  · have HR := Lib.hid (rowL_3 n (by omega) a3 h2)
    go_enter Tryz.func99, Tryz.ntmps99
    go_wp2
    go_ret
    exact ⟨by rw [HR.out]; rfl, by repeat (first | exact Bl.refl _ | refine Bl.alloc ?_ _)⟩
  · have HR := Lib.hid (rowL_4 n (by omega) h1)
    go_enter Tryz.func99, Tryz.ntmps99
    go_wp2
    go_ret
    exact ⟨by rw [HR.out]; rfl, by repeat (first | exact Bl.refl _ | refine Bl.alloc ?_ _)⟩
end Go.Proofs.YtkacjnifhmgeiaaGreatDoor

namespace Go.Proofs.YtkacjnifhmgeiaaGreatDoor
open Go.RowKit

def hd (p : UInt8 → Bool) : List UInt8 → Bool
  | [] => false
  | c :: _ => p c
theorem hd_drop (p : UInt8 → Bool) (s : List UInt8) (k : Nat) (h : k < s.length) : hd p (s.drop k) = p s[k] := by rw [List.drop_eq_getElem_cons h]; rfl
theorem hd_end (p : UInt8 → Bool) (s : List UInt8) (k : Nat) (h : s.length ≤ k) : hd p (s.drop k) = false := by rw [List.drop_eq_nil_of_le h]; rfl


/-- A closure that tells of a byte whether it is of a kind, in each world of a class. -/
structure Do (N : Nat) (cap : Array Value) (p : UInt8 → Bool) (I : World → Prop) : Prop where
  cf : ∀ (args : Array Value) (W : World), Sem.run Tryz.prog (callFunc N args) W = .ok (.enter N args) W
  go : ∀ (c : UInt8) W, I W → Calls Tryz.prog N (#[.int .u8 (c.toNat : Int)] ++ cap) W fun e w' => e = .returned (.bool (p c)) ∧ Qt W w'
  qt : ∀ W W', I W → Qt W W' → I W'

theorem tw_take {α : Type} (p : α → Bool) (l : List α) : l.take (l.takeWhile p).length = l.takeWhile p := (List.prefix_iff_eq_take.1 (List.takeWhile_prefix p)).symm
theorem tw_drop {α : Type} (p : α → Bool) (l : List α) : l.drop (l.takeWhile p).length = l.dropWhile p := by
  induction l with
  | nil => rfl
  | cons a l ih => simp only [List.takeWhile_cons, List.dropWhile_cons]; split <;> simp [ih]
theorem hd_in (p : UInt8 → Bool) (s : List UInt8) (k j : Nat) (h : j < ((s.drop k).takeWhile p).length) : hd p (s.drop (k + j)) = true ∧ k + j < s.length := by
  have h1 := tw_take p (s.drop k)
  have h2 : ((s.drop k).takeWhile p).length ≤ (s.drop k).length := (List.takeWhile_prefix p).length_le
  rw [List.length_drop] at h2
  have hlt : k + j < s.length := by omega
  refine ⟨?_, hlt⟩
  rw [hd_drop p s (k + j) hlt]
  have h3 : ((s.drop k).takeWhile p)[j] = s[k + j] := by
    have : ((s.drop k).take ((s.drop k).takeWhile p).length)[j]'(by rw [h1]; exact h) = s[k + j] := by simp
    rw [← this]; congr 1; exact h1.symm
  rw [← h3]; exact mem_tw (List.getElem_mem h)
theorem hd_out (p : UInt8 → Bool) (s : List UInt8) (k : Nat) : hd p (s.drop (k + ((s.drop k).takeWhile p).length)) = false := by
  rw [← List.drop_drop, tw_drop]
  induction s.drop k with
  | nil => rfl
  | cons a l ih =>
    rw [List.dropWhile_cons]
    cases h : p a
    · simp [hd, h]
    · simpa using ih

end Go.Proofs.YtkacjnifhmgeiaaGreatDoor

namespace Go.Proofs.YtkacjnifhmgeiaaGreatDoor
open Go.RowKit

def is61 (c : UInt8) : Bool := decide (c.toNat = 61)
def not60 (c : UInt8) : Bool := decide (c.toNat ≠ 60)
def isq (c : UInt8) : Bool := decide (c.toNat = 34) || decide (c.toNat = 39)
def Tr : World → Prop := fun _ => True

theorem Tr2 (b : Nat) : ∀ W u, Tr W → Tr (W.setCell ⟨b, 1, none⟩ u) := fun _ _ _ => trivial

end Go.Proofs.YtkacjnifhmgeiaaGreatDoor

namespace Go.Proofs.YtkacjnifhmgeiaaGreatDoor
open Go.RowKit

theorem sfx_drop {s t : List UInt8} (h : t <:+ s) : s.drop (s.length - t.length) = t := by
  obtain ⟨p, rfl⟩ := h
  simp
/-- The variable bytealg.MaxLen holds some number. -/
def ML (w : World) : Prop := ∃ m, 0 < w.heap.size ∧ w.cell? ⟨0, 0, none⟩ = some (.int .i64 m)
theorem ML.of_bl {w w' : World} (h : ML w) (hb : Bl w w') : ML w' := by
  obtain ⟨m, h1, h2⟩ := h
  exact ⟨m, Nat.lt_of_lt_of_le h1 (Below.size hb), (hb.cells.1 _ 0 h1).trans h2⟩
theorem ML.of_gb {w w' : World} {b : Nat} (h : ML w) (hg : w.grownBy w' (some b)) (hb : 0 < b) : ML w' := by
  obtain ⟨m, h1, h2⟩ := h
  exact ⟨m, Nat.lt_of_lt_of_le h1 hg.size, hg.cell h2 (by simp; omega)⟩
theorem find_c (l p : List UInt8) (hl : l.length ≤ 4294967280) (w : World) (hM : ML w) :
    Calls Tryz.prog 95 #[.string ⟨l.toArray⟩, .string ⟨p.toArray⟩] w fun e w' => e = .returned (.int .i64 (Lib.index l p)) ∧ w = w' := by
  obtain ⟨m, h1, h2⟩ := hM
  exact (Tryz.strings_Index ⟨l.toArray⟩ ⟨p.toArray⟩ m w (by simp [ByteArray.size]; omega) h2).mono fun _ _ ⟨he, hw⟩ => ⟨he, hw.symm⟩
theorem cutS_index (p : List UInt8) (hp : p ≠ []) : ∀ l : List UInt8, (Lib.index l p = -1 ∧ cutS p l = none) ∨ (∃ i : Nat, Lib.index l p = i ∧ i + p.length ≤ l.length ∧ cutS p l = some (l.drop (i + p.length))) := by
  intro l
  induction l with
  | nil =>
    left
    cases p with
    | nil => exact absurd rfl hp
    | cons a p => exact ⟨rfl, rfl⟩
  | cons c l ih =>
    by_cases h : pre p (c :: l) = true
    · right
      refine ⟨0, ?_, by have := pre_len h; omega, ?_⟩
      · unfold Lib.index; rw [show p.isPrefixOf (c :: l) = true from h]; rfl
      · unfold cutS; rw [if_pos h]; simp
    · have h' : p.isPrefixOf (c :: l) = false := Bool.eq_false_iff.2 h
      rcases ih with ⟨h1, h2⟩ | ⟨i, h1, h2, h3⟩
      · left
        refine ⟨?_, ?_⟩
        · unfold Lib.index; rw [h', h1]; rfl
        · unfold cutS; rw [if_neg h, h2]
      · right
        refine ⟨i + 1, ?_, by simp only [List.length_cons]; omega, ?_⟩
        · unfold Lib.index; rw [h', h1]
          have : ((i : Int) == -1) = false := by rw [beq_eq_false_iff_ne]; omega
          simp [this]
        · unfold cutS; rw [if_neg h, h3, Nat.add_right_comm]; rfl

end Go.Proofs.YtkacjnifhmgeiaaGreatDoor

/- sign and Taken of the program. · Signs that are taken: the reference. · Tokens: the reader's small steps. · Tokens: the closures that tell kinds of bytes; need, begins, letterAt, to, Folded. · Tokens: the reader's steps, said by what is left of the text; begins, letterAt, to, Folded. · Tokens: small letters: Folded of the program, FoldOf of the reference. · Tokens: a value behind a =. -/
import Derived.Test.YtoaecehkmoehjaaGreatDoorEscH
import Derived.Test.YtoaecehkmoehjaaGreatDoorGrpA
import Derived.Test.YtoaecehkmoehjaaGreatDoorTokA
namespace Go.Proofs.YtoaecehkmoehjaaGreatDoor
open Go.RowKit

set_option maxRecDepth 100000 in
set_option maxHeartbeats 2000000 in
theorem sign_c (t : List UInt8) (hl : t.length ≤ 4611686018427387904) (w : World) (hE : ES w) :
    Calls Tryz.prog 60 #[.string ⟨t.toArray⟩] w fun e w' => e = .returned (.tuple #[.string ⟨(sgn t).1.toArray⟩, .int .i64 (sgn t).2.1, .bool (sgn t).2.2]) ∧ Bl w w' := by
  have NC := Lib.hid (fun W => named_c t W)
  have UC := Lib.hid (fun W hW => numbered_c t hl W hW)
  by_cases h0 : 0 < (nmd t).2
  · have HS := Lib.hid (show sgn t = ((nmd t).1, (nmd t).2, true) by unfold sgn; rw [if_pos h0])
    have h0' : (0 : Int) < ((nmd t).2 : Int) := by omega
    go_enter Tryz.func60, Tryz.ntmps60
    go_wp2_with (go_at_call 72; (with_reducible refine (NC.out _).mono ?_); rintro e w' ⟨rfl, hb⟩)
    go_ret3
    exact ⟨by rw [HS.out]; rfl, hb⟩
  have h0' : ¬ (0 : Int) < ((nmd t).2 : Int) := by omega
  cases h1 : (((nbr t).2 : Int) == 0)
  · have h1' : ¬ (nbr t).2 = 0 := by have := ne_of_beq_false h1; omega
    cases h2 : scl (nbr t).1
    · have HS := Lib.hid (show sgn t = ([239, 191, 189], (nbr t).2, false) by unfold sgn; rw [if_neg h0, if_neg h1', h2]; rfl)
      go_enter Tryz.func60, Tryz.ntmps60
      go_wp2_with (first | (go_at_call 72; (with_reducible refine (NC.out _).mono ?_); rintro e w' ⟨rfl, hb⟩; have hE' := hE.of_bl hb) | (go_at_call 73; (with_reducible refine (UC.out _ hE').mono ?_); rintro e w'' ⟨rfl, hb'⟩) | (go_at_call 74; refine (scalar_c _ _).mono ?_; rintro e w3 ⟨rfl, rfl⟩))
      go_ret3
      exact ⟨by rw [HS.out]; rfl, hb.trans hb'⟩
    · have HS := Lib.hid (show sgn t = (rowL (nbr t).1, (nbr t).2, true) by unfold sgn; rw [if_neg h0, if_neg h1', h2]; rfl)
      have hs2 : 0 < (nbr t).1 ∧ (nbr t).1 ≤ 1114111 := by simp [scl] at h2; omega
      obtain ⟨hs3, hs4⟩ := hs2
      go_enter Tryz.func60, Tryz.ntmps60
      go_wp2_with (first | (go_at_call 72; (with_reducible refine (NC.out _).mono ?_); rintro e w' ⟨rfl, hb⟩; have hE' := hE.of_bl hb) | (go_at_call 73; (with_reducible refine (UC.out _ hE').mono ?_); rintro e w'' ⟨rfl, hb'⟩) | (go_at_call 74; refine (scalar_c _ _).mono ?_; rintro e w3 ⟨rfl, rfl⟩) | go_quiet (fail))
      go_ret3
      exact ⟨by rw [HS.out]; rfl, hb.trans hb'⟩
  · have h1' : (nbr t).2 = 0 := by have := eq_of_beq h1; omega
    have HS := Lib.hid (show sgn t = ([38], 0, false) by unfold sgn; rw [if_neg h0, if_pos h1'])
    clear h1'
    go_enter Tryz.func60, Tryz.ntmps60
    go_wp2_with (first | (go_at_call 72; (with_reducible refine (NC.out _).mono ?_); rintro e w' ⟨rfl, hb⟩; have hE' := hE.of_bl hb) | (go_at_call 73; (with_reducible refine (UC.out _ hE').mono ?_); rintro e w'' ⟨rfl, hb'⟩))
    go_ret3
    exact ⟨by rw [HS.out]; rfl, hb.trans hb'⟩

/-- A builder that holds these bytes; new since B. -/
def Bu (B b : Nat) (l : List UInt8) (w : World) : Prop := Lib.IsBuilder 63 5 B b (Lib.byteCells l) w
theorem BuilderAt.of_bl {T e : TypeId} {B b : Nat} {p : Value} {bs : List Value} {w w' : World} (h : Lib.BuilderAt T e B b p bs w) (hb : Bl w w') : Lib.BuilderAt T e B b p bs w' := by
  obtain ⟨hB, v, hk, hown, hne⟩ := h
  have hlt : b < w.heap.size := (Array.getElem?_eq_some_iff.1 hk).1
  refine ⟨hB, v, (Below.block hb b hlt).trans hk, ⟨hown.1, ?_⟩, hne⟩
  rcases hown.2 with h | ⟨g, cap, cur, h1, h2, h3, h4⟩
  · exact Or.inl h
  · exact Or.inr ⟨g, cap, cur, h1, h2, (Below.block hb g (Array.getElem?_eq_some_iff.1 h3).1).trans h3, h4⟩
theorem Bu.of_bl {B b : Nat} {l : List UInt8} {w w' : World} (h : Bu B b l w) (hb : Bl w w') : Bu B b l w' := by
  rcases h with h | h
  · exact Or.inl (BuilderAt.of_bl h hb)
  · exact Or.inr (BuilderAt.of_bl h hb)
theorem wr_c (B b : Nat) (l a : List UInt8) (w : World) (h : Bu B b l w) (hlen : l.length + a.length ≤ 140737488355328) (hBw : B ≤ w.heap.size) :
    Calls Tryz.prog 42 #[.pointer (some ⟨b, 0, none⟩), .string ⟨a.toArray⟩] w fun e w' => e = .returned (.tuple #[.int .i64 a.length, .nilIface]) ∧ Bu B b (l ++ a) w' ∧ Below B w w' := by
  refine (write_c B b (Lib.byteCells l) ⟨a.toArray⟩ w h (by rw [Lib.byteCells_length]; exact hlen) hBw).mono ?_
  rintro e w' ⟨rfl, h1, h2⟩
  exact ⟨rfl, by unfold Bu; rw [Lib.byteCells_append]; exact Or.inr h1, h2⟩
theorem str_c (B b : Nat) (l : List UInt8) (w : World) (h : Bu B b l w) (hBw : B ≤ w.heap.size) :
    Calls Tryz.prog 45 #[.pointer (some ⟨b, 0, none⟩)] w fun e w' => e = .returned (.string ⟨l.toArray⟩) ∧ Below B w w' :=
  Tryz.Builder_String_any B b l w h hBw

def strLen : Value → Nat | .string s => s.size | _ => 0
set_option maxRecDepth 100000 in
set_option maxHeartbeats 4000000 in
theorem taken_c (l : List UInt8) (hl : l.length ≤ 1099511627776) (w : World) (hE : ES w) :
    Calls Tryz.prog 49 #[.string ⟨l.toArray⟩] w fun e w' => e = .returned (.tuple #[.string ⟨(Tk l).1.toArray⟩, .bool (Tk l).2]) ∧ Bl w w' := by
  go_enter Tryz.func49, Tryz.ntmps49
  go_wp2
  go_loopw [0, 5] (fun s0 s5 wr => ∃ (rest out : List UInt8) (al : Bool), s0 = .string ⟨rest.toArray⟩ ∧ s5 = .bool al ∧ Hid (Tk l = (out ++ (Tk rest).1, al && (Tk rest).2)) ∧ rest.length ≤ l.length ∧ Bu w.heap.size w.heap.size out wr ∧ Bl w wr) (fun s0 _ _ => strLen s0)
  case atStart => exact ⟨l, [], true, rfl, rfl, Lib.hid (by simp), Nat.le_refl _, Or.inl ⟨Nat.le_refl _, .slice none 0 0, heap_alloc_last _ _, ⟨rfl, Or.inl ⟨rfl, rfl⟩⟩, by simp [Value.ownBlock]⟩, (Bl.refl _).alloc _⟩
  case round =>
    obtain ⟨rest, out, al, rfl, rfl, HK, hr, hB, hbl⟩ := hrel
    have hol : out.length ≤ 4 * l.length := by
      have h1 := Tk_len l.length l (Nat.le_refl _)
      rw [HK.out] at h1
      simp only [List.length_append] at h1; omega
    have hBs := Below.size hbl
    by_cases hn : rest = []
    · subst hn
      have HS := Lib.hid (fun W h hW => str_c w.heap.size w.heap.size out W h hW)
      go_wp2_with (go_at_call 45; (with_reducible refine (HS.out _ hB hBs).mono ?_); rintro e w' ⟨rfl, hb⟩)
      go_ret2
      exact ⟨by rw [HK.out]; simp [Tk_nil], Below.trans hbl hb⟩
    have hemp : rest.isEmpty = false := by cases rest <;> simp_all
    have hrl : 0 < rest.length := List.length_pos_iff.2 hn
    have CC := Lib.hid (fun W => cut_c rest 38 (by omega) W)
    have hbf := bef_len 38 rest
    have haf := aft_len 38 rest
    by_cases hm : 38 ∈ rest
    · have hK := HK.out
      rw [Tk_cut rest hm, Tk_amp] at hK
      have hs := sgn_len (38 :: aft 38 rest)
      obtain ⟨sg, hsg⟩ : ∃ sg, sg = sgn (38 :: aft 38 rest) := ⟨_, rfl⟩
      have SC := Lib.hid (fun W hW => sign_c (38 :: aft 38 rest) (by simp; omega) W hW)
      rw [← hsg] at hK hs SC
      obtain ⟨t, n, ok⟩ := sg
      simp only [List.length_cons] at hs hK SC
      obtain ⟨hs1, hs2⟩ := hs
      have hlen : rest.length = (bef 38 rest).length + 1 + (aft 38 rest).length := by
        rcases ixb 38 rest with ⟨_, _, h3⟩ | ⟨h, _⟩
        · have := congrArg List.length h3; simp at this; omega
        · exact absurd hm h
      have HM := Lib.hid (decide_eq_true hm)
      have HK2 := Lib.hid hK
      obtain ⟨a, ha⟩ : ∃ a, a = bef 38 rest := ⟨_, rfl⟩
      obtain ⟨c, hc⟩ : ∃ c, c = aft 38 rest := ⟨_, rfl⟩
      rw [HM.out, ← ha, ← hc] at CC
      rw [← hc] at SC HK2 hs2 haf
      rw [← ha] at hbf HK2
      rw [← ha, ← hc] at hlen
      clear hK hsg ha hc HM hm
      go_wp2_with (first | (go_at_call 59; (with_reducible refine (CC.out _).mono ?_); rintro e w1 ⟨rfl, hq⟩; have hbl1 := hbl.trans hq.bl; have hB1 := hB.of_bl hq.bl; have HW := Lib.hid (wr_c w.heap.size w.heap.size out a w1 hB1 (by omega) (Below.size hbl1))) | (go_at_call 42; (with_reducible refine HW.out.mono ?_); rintro e w2 ⟨rfl, hB2, hb2⟩; clear HW; have hbl2 : Bl w w2 := Below.trans hbl1 hb2; have HS := Lib.hid (SC.out w2 (hE.of_bl hbl2))) | (go_at_call 60; refine HS.out.mono ?_; rintro e w3 ⟨rfl, hb3⟩; clear HS; have hbl3 := hbl2.trans hb3; have hB3 := hB2.of_bl hb3; have HW2 := Lib.hid (wr_c w.heap.size w.heap.size (out ++ a) t w3 hB3 (by simp; omega) (Below.size hbl3))) | (go_at_call 42; (with_reducible refine HW2.out.mono ?_); rintro e w4 ⟨rfl, hB4, hb4⟩; clear HW2; have hbl4 : Bl w w4 := Below.trans hbl3 hb4))
      all_goals
        have hmx : (max 0 ((n : Int) - 1)).toNat = n - 1 := by rw [Int.max_def]; split <;> omega
        have hsm : strLen (Value.string ⟨(List.drop (n - 1) c).toArray⟩) < strLen (Value.string ⟨rest.toArray⟩) := by
          simp only [strLen, ByteArray.size, List.size_toArray, List.length_drop]; omega
        rw [hmx]
      · obtain rfl : al = true := by assumption
        exact ⟨⟨List.drop (n - 1) c, out ++ a ++ t, ok, rfl, rfl, Lib.hid (by rw [HK2.out]; simp), by simp; omega, hB4, hbl4⟩, hsm⟩
      · obtain rfl : al = false := by
          have h : ¬ al = true := by assumption
          simpa using h
        exact ⟨⟨List.drop (n - 1) c, out ++ a ++ t, false, rfl, rfl, Lib.hid (by rw [HK2.out]; simp), by simp; omega, hB4, hbl4⟩, hsm⟩
    · have HN := Lib.hid (Tk_none rest hm)
      have HM := Lib.hid (decide_eq_false hm)
      have hbef : bef 38 rest = rest := by
        rcases ixb 38 rest with ⟨h, _⟩ | ⟨_, _, h, _⟩
        · exact absurd h hm
        · exact h
      rw [HM.out, hbef] at CC
      clear hbef hm hbf haf
      go_wp2_with (first | (go_at_call 59; (with_reducible refine (CC.out _).mono ?_); rintro e w1 ⟨rfl, hq⟩; have hbl1 := hbl.trans hq.bl; have hB1 := hB.of_bl hq.bl; have HW := Lib.hid (wr_c w.heap.size w.heap.size out rest w1 hB1 (by omega) (Below.size hbl1))) | (go_at_call 42; (with_reducible refine HW.out.mono ?_); rintro e w2 ⟨rfl, hB2, hb2⟩; clear HW; have hbl2 : Bl w w2 := Below.trans hbl1 hb2; have HS := Lib.hid (str_c w.heap.size w.heap.size (out ++ rest) w2 hB2 (Below.size hbl2))) | (go_at_call 45; (with_reducible refine HS.out.mono ?_); rintro e w3 ⟨rfl, hb3⟩))
      go_ret2
      exact ⟨by rw [HK.out, HN.out]; simp, Below.trans hbl2 hb3⟩
end Go.Proofs.YtoaecehkmoehjaaGreatDoor

namespace Go.Proofs.YtoaecehkmoehjaaGreatDoor
open Go.RowKit

theorem startsAt_c (s p : List UInt8) (at' : Nat) (hs : s.length ≤ 4611686018427387904) (hp : p.length ≤ 1000) (h : at' ≤ s.length) (w : World) :
    Calls Tryz.prog 26 #[.string ⟨s.toArray⟩, .int .i64 (at' : Int), .string ⟨p.toArray⟩] w fun e w' => e = .returned (.bool (pre p (s.drop at'))) ∧ w = w' := by
  have hq := pre_iff p (s.drop at')
  simp only [List.length_drop] at hq
  have HQ := Lib.hid hq
  clear hq
  have h0 : (0 : Int) ≤ (at' : Int) := by omega
  have h0' : decide ((0 : Int) ≤ (at' : Int)) = true := by simp
  by_cases hl : p.length ≤ s.length - at'
  · have hl1 : (p.length : Int) ≤ (s.length : Int) - (at' : Int) := by omega
    have hl2 : (at' : Int) + (p.length : Int) ≤ (s.length : Int) := by omega
    have hl3 : at' + p.length ≤ s.length := by omega
    have hl4 : (at' : Int) ≤ (at' : Int) + (p.length : Int) := by omega
    have HL := Lib.hid hl
    clear hl
    go_enter Tryz.func26, Tryz.ntmps26
    go_wp2
    go_ret
    exact ⟨ret_bool (by rw [HQ.out, decide_eq_true HL.out]; simp), rfl⟩
  · have hl1 : ¬ (p.length : Int) ≤ (s.length : Int) - (at' : Int) := by omega
    have HL := Lib.hid hl
    clear hl
    go_enter Tryz.func26, Tryz.ntmps26
    go_wp2
    go_ret
    exact ⟨ret_bool (by rw [HQ.out, decide_eq_false HL.out]; rfl), rfl⟩

/-- A row of cells of bytes reads as a string. -/
theorem conv_row (W : World) (g : Nat) (l : List UInt8) (h : BA W g l) (n : Nat) (hn : n = l.length) : (convert 61 9 (.slice (some ⟨g, 0, none⟩) n n)).run Tryz.prog W = .ok (.string ⟨l.toArray⟩) W := by
  subst hn
  have h1 := run_convert_bytes_arg (P := Tryz.prog) W 61 5 Tryz.underlying61 Tryz.underlying5 g 0 l.length l.length (l.map fun c => (c.toNat : Int)) (by simp) (fun i hi => by
    rw [Nat.zero_add, h i hi]
    simp [List.getD, hi]) 9 Tryz.underlying9
  have e : (l.map fun c => (c.toNat : Int)).map (fun n => UInt8.ofNat n.toNat) = l := by
    rw [List.map_map]
    exact (List.map_congr_left (fun c _ => by simp)).trans (List.map_id l)
  rw [h1, strOfNums, e]
theorem cv1 (W : World) (b : Nat) (x : Int) (hx : W.cell? ⟨b, 0, none⟩ = some (.int .u8 x)) : (convert 61 9 (.slice (some ⟨b, 0, none⟩) 1 1)).run Tryz.prog W = .ok (.string ⟨[UInt8.ofNat x.toNat].toArray⟩) W :=
  run_convert_bytes_arg (P := Tryz.prog) W 61 5 Tryz.underlying61 Tryz.underlying5 b 0 1 1 [x] rfl (fun i hi => by
    obtain rfl : i = 0 := by omega
    exact hx) 9 Tryz.underlying9
theorem cv2 (W : World) (b : Nat) (x y : Int) (hx : W.cell? ⟨b, 0, none⟩ = some (.int .u8 x)) (hy : W.cell? ⟨b, 1, none⟩ = some (.int .u8 y)) : (convert 61 9 (.slice (some ⟨b, 0, none⟩) 2 2)).run Tryz.prog W = .ok (.string ⟨[UInt8.ofNat x.toNat, UInt8.ofNat y.toNat].toArray⟩) W :=
  run_convert_bytes_arg (P := Tryz.prog) W 61 5 Tryz.underlying61 Tryz.underlying5 b 0 2 2 [x, y] rfl (fun i hi => by
    have : i = 0 ∨ i = 1 := by omega
    rcases this with rfl | rfl
    · exact hx
    · exact hy) 9 Tryz.underlying9
theorem cv3 (W : World) (b : Nat) (x y z : Int) (hx : W.cell? ⟨b, 0, none⟩ = some (.int .u8 x)) (hy : W.cell? ⟨b, 1, none⟩ = some (.int .u8 y)) (hz : W.cell? ⟨b, 2, none⟩ = some (.int .u8 z)) : (convert 61 9 (.slice (some ⟨b, 0, none⟩) 3 3)).run Tryz.prog W = .ok (.string ⟨[UInt8.ofNat x.toNat, UInt8.ofNat y.toNat, UInt8.ofNat z.toNat].toArray⟩) W :=
  run_convert_bytes_arg (P := Tryz.prog) W 61 5 Tryz.underlying61 Tryz.underlying5 b 0 3 3 [x, y, z] rfl (fun i hi => by
    have : i = 0 ∨ i = 1 ∨ i = 2 := by omega
    rcases this with rfl | rfl | rfl
    · exact hx
    · exact hy
    · exact hz) 9 Tryz.underlying9
theorem cv4 (W : World) (b : Nat) (x y z u : Int) (hx : W.cell? ⟨b, 0, none⟩ = some (.int .u8 x)) (hy : W.cell? ⟨b, 1, none⟩ = some (.int .u8 y)) (hz : W.cell? ⟨b, 2, none⟩ = some (.int .u8 z)) (hu : W.cell? ⟨b, 3, none⟩ = some (.int .u8 u)) : (convert 61 9 (.slice (some ⟨b, 0, none⟩) 4 4)).run Tryz.prog W = .ok (.string ⟨[UInt8.ofNat x.toNat, UInt8.ofNat y.toNat, UInt8.ofNat z.toNat, UInt8.ofNat u.toNat].toArray⟩) W :=
  run_convert_bytes_arg (P := Tryz.prog) W 61 5 Tryz.underlying61 Tryz.underlying5 b 0 4 4 [x, y, z, u] rfl (fun i hi => by
    have : i = 0 ∨ i = 1 ∨ i = 2 ∨ i = 3 := by omega
    rcases this with rfl | rfl | rfl | rfl
    · exact hx
    · exact hy
    · exact hz
    · exact hu) 9 Tryz.underlying9
theorem rowL_1 (n : Int) (h0 : 0 < n) (h1 : n < 128) : rowL n = [UInt8.ofNat n.toNat] := by
  have hv : Utf8.valid n = true := by simp [Utf8.valid]; omega
  unfold rowL Utf8.encode
  rw [hv]
  simp only [if_true]
  rw [if_pos (by omega)]
theorem rowL_2 (n : Int) (h0 : 128 ≤ n) (h1 : n < 2048) : rowL n = [UInt8.ofNat (192 + n / 64).toNat, UInt8.ofNat (128 + n % 64).toNat] := by
  have hv : Utf8.valid n = true := by simp [Utf8.valid]; omega
  unfold rowL Utf8.encode
  rw [hv]
  simp only [if_true]
  rw [if_neg (by omega), if_pos (by omega), show (192 + n / 64).toNat = 192 + n.toNat / 64 by omega, show (128 + n % 64).toNat = 128 + n.toNat % 64 by omega]
theorem rowL_3 (n : Int) (h0 : 2048 ≤ n) (h1 : n < 65536) (h2 : n < 55296 ∨ 57343 < n) : rowL n = [UInt8.ofNat (224 + n / 4096).toNat, UInt8.ofNat (128 + n / 64 % 64).toNat, UInt8.ofNat (128 + n % 64).toNat] := by
  have hv : Utf8.valid n = true := by simp [Utf8.valid]; omega
  unfold rowL Utf8.encode
  rw [hv]
  simp only [if_true]
  rw [if_neg (by omega), if_neg (by omega), if_pos (by omega), show (224 + n / 4096).toNat = 224 + n.toNat / 4096 by omega, show (128 + n / 64 % 64).toNat = 128 + n.toNat / 64 % 64 by omega, show (128 + n % 64).toNat = 128 + n.toNat % 64 by omega]
theorem rowL_4 (n : Int) (h0 : 65536 ≤ n) (h1 : n ≤ 1114111) : rowL n = [UInt8.ofNat (240 + n / 262144).toNat, UInt8.ofNat (128 + n / 4096 % 64).toNat, UInt8.ofNat (128 + n / 64 % 64).toNat, UInt8.ofNat (128 + n % 64).toNat] := by
  have hv : Utf8.valid n = true := by simp [Utf8.valid]; omega
  unfold rowL Utf8.encode
  rw [hv]
  simp only [if_true]
  rw [if_neg (by omega), if_neg (by omega), if_neg (by omega), show (240 + n / 262144).toNat = 240 + n.toNat / 262144 by omega, show (128 + n / 4096 % 64).toNat = 128 + n.toNat / 4096 % 64 by omega, show (128 + n / 64 % 64).toNat = 128 + n.toNat / 64 % 64 by omega, show (128 + n % 64).toNat = 128 + n.toNat % 64 by omega]
set_option maxHeartbeats 2000000 in
/-- The row of a code point. -/
theorem row_c (n : Int) (h0 : 0 < n) (h1 : n ≤ 1114111) (h2 : n < 55296 ∨ 57343 < n) (w : World) :
    Calls Tryz.prog 56 #[.int .i64 n] w fun e w' => e = .returned (.string ⟨(rowL n).toArray⟩) ∧ Bl w w' := by
  have c1 := cv1
  have c2 := cv2
  have c3 := cv3
  have c4 := cv4
  by_cases a1 : n < 128
  · have HR := Lib.hid (rowL_1 n h0 a1)
    go_enter Tryz.func56, Tryz.ntmps56
    go_wp2
    go_ret
    exact ⟨by rw [HR.out]; rfl, by repeat (first | exact Bl.refl _ | refine Bl.alloc ?_ _)⟩
  by_cases a2 : n < 2048
  · have HR := Lib.hid (rowL_2 n (by omega) a2)
    go_enter Tryz.func56, Tryz.ntmps56
    go_wp2
    go_ret
    exact ⟨by rw [HR.out]; rfl, by repeat (first | exact Bl.refl _ | refine Bl.alloc ?_ _)⟩
  by_cases a3 : n < 65536
  · have HR := Lib.hid (rowL_3 n (by omega) a3 h2)
    go_enter Tryz.func56, Tryz.ntmps56
    go_wp2
    go_ret
    exact ⟨by rw [HR.out]; rfl, by repeat (first | exact Bl.refl _ | refine Bl.alloc ?_ _)⟩
  · have HR := Lib.hid (rowL_4 n (by omega) h1)
    go_enter Tryz.func56, Tryz.ntmps56
    go_wp2
    go_ret
    exact ⟨by rw [HR.out]; rfl, by repeat (first | exact Bl.refl _ | refine Bl.alloc ?_ _)⟩
end Go.Proofs.YtoaecehkmoehjaaGreatDoor

namespace Go.Proofs.YtoaecehkmoehjaaGreatDoor
open Go.RowKit

def hd (p : UInt8 → Bool) : List UInt8 → Bool
  | [] => false
  | c :: _ => p c
theorem hd_drop (p : UInt8 → Bool) (s : List UInt8) (k : Nat) (h : k < s.length) : hd p (s.drop k) = p s[k] := by rw [List.drop_eq_getElem_cons h]; rfl
theorem hd_end (p : UInt8 → Bool) (s : List UInt8) (k : Nat) (h : s.length ≤ k) : hd p (s.drop k) = false := by rw [List.drop_eq_nil_of_le h]; rfl


/-- A closure that tells of a byte whether it is of a kind, in each world of a class. -/
structure Do (N : Nat) (cap : Array Value) (p : UInt8 → Bool) (I : World → Prop) : Prop where
  cf : ∀ (args : Array Value) (W : World), Sem.run Tryz.prog (callFunc N args) W = .ok (.enter N args) W
  go : ∀ (c : UInt8) W, I W → Calls Tryz.prog N (#[.int .u8 (c.toNat : Int)] ++ cap) W fun e w' => e = .returned (.bool (p c)) ∧ Qt W w'
  qt : ∀ W W', I W → Qt W W' → I W'

theorem here_c (N : Nat) (cap : Array Value) (p : UInt8 → Bool) (I : World → Prop) (hD : Do N cap p I) (b k : Nat) (s x : List UInt8) (v : Value) (w : World) (hI : I w) (hR : Rk w b s k x v) (_hs : s.length ≤ 1099511627776) :
    Calls Tryz.prog 79 #[.pointer (some ⟨b, 0, none⟩), .func (.func N) #[] cap] w fun e w' => e = .returned (.bool (hd p (s.drop k))) ∧ Qt w w' := by
  obtain ⟨c0, c1, c2, c3, f0, f1, f2, f3⟩ := hR.cells
  have hcf := hD.cf
  have HD := Lib.hid (fun c W h => hD.go c W (hD.qt w W hI h))
  clear hD hR
  by_cases hlt : k < s.length
  · have hlt' : (k : Int) < (s.length : Int) := by omega
    have H1 := Lib.hid (hd_drop p s k hlt)
    go_enter Tryz.func79, Tryz.ntmps79
    go_wp2_with (go_quiet (first | (refine quiet_qt (HD.out s[k] _ ?_); exact ⟨_, rfl⟩)))
    go_ret
    exact ⟨by rw [H1.out]; rfl, (Qt.refl _).drewN _⟩
  · have hlt' : decide ((k : Int) < (s.length : Int)) = false := by simp; omega
    have H1 := Lib.hid (hd_end p s k (by omega))
    go_enter Tryz.func79, Tryz.ntmps79
    go_wp2_with (go_quiet (fail))
    go_ret
    exact ⟨by rw [H1.out]; rfl, (Qt.refl _).drewN _⟩

theorem tw_take {α : Type} (p : α → Bool) (l : List α) : l.take (l.takeWhile p).length = l.takeWhile p := (List.prefix_iff_eq_take.1 (List.takeWhile_prefix p)).symm
theorem tw_drop {α : Type} (p : α → Bool) (l : List α) : l.drop (l.takeWhile p).length = l.dropWhile p := by
  induction l with
  | nil => rfl
  | cons a l ih => simp only [List.takeWhile_cons, List.dropWhile_cons]; split <;> simp [ih]
theorem hd_in (p : UInt8 → Bool) (s : List UInt8) (k j : Nat) (h : j < ((s.drop k).takeWhile p).length) : hd p (s.drop (k + j)) = true ∧ k + j < s.length := by
  have h1 := tw_take p (s.drop k)
  have h2 : ((s.drop k).takeWhile p).length ≤ (s.drop k).length := (List.takeWhile_prefix p).length_le
  rw [List.length_drop] at h2
  have hlt : k + j < s.length := by omega
  refine ⟨?_, hlt⟩
  rw [hd_drop p s (k + j) hlt]
  have h3 : ((s.drop k).takeWhile p)[j] = s[k + j] := by
    have : ((s.drop k).take ((s.drop k).takeWhile p).length)[j]'(by rw [h1]; exact h) = s[k + j] := by simp
    rw [← this]; congr 1; exact h1.symm
  rw [← h3]; exact mem_tw (List.getElem_mem h)
theorem hd_out (p : UInt8 → Bool) (s : List UInt8) (k : Nat) : hd p (s.drop (k + ((s.drop k).takeWhile p).length)) = false := by
  rw [← List.drop_drop, tw_drop]
  induction s.drop k with
  | nil => rfl
  | cons a l ih =>
    rw [List.dropWhile_cons]
    cases h : p a
    · simp [hd, h]
    · simpa using ih

set_option maxHeartbeats 1000000 in
theorem pass_c (N : Nat) (cap : Array Value) (p : UInt8 → Bool) (I : World → Prop) (hD : Do N cap p I) (b k : Nat) (s x : List UInt8) (v : Value) (w : World) (hI : I w) (hI2 : ∀ W u, I W → I (W.setCell ⟨b, 1, none⟩ u)) (hR : Rk w b s k x v) (hk : k ≤ s.length) (hs : s.length ≤ 1099511627776) :
    Calls Tryz.prog 64 #[.pointer (some ⟨b, 0, none⟩), .func (.func N) #[] cap] w fun e w' => e = .returned (.string ⟨((s.drop k).takeWhile p).toArray⟩) ∧
      Rk w' b s (k + ((s.drop k).takeWhile p).length) x v ∧ w.grownBy w' (some b) ∧ I w' := by
  obtain ⟨c0, c1, c2, c3, f0, f1, f2, f3⟩ := hR.cells
  have HH := Lib.hid (fun j W h1 h2 => here_c N cap p I hD b j s x v W h1 h2 hs)
  have HIN := Lib.hid (hd_in p s k)
  have HOUT := Lib.hid (hd_out p s k)
  have HT := Lib.hid (tw_take p (s.drop k))
  have hle : k + ((s.drop k).takeWhile p).length ≤ s.length := by
    have h2 : ((s.drop k).takeWhile p).length ≤ (s.drop k).length := (List.takeWhile_prefix p).length_le
    rw [List.length_drop] at h2; omega
  have HQ := Lib.hid hD.qt
  have HI2 := Lib.hid hI2
  obtain ⟨t, ht⟩ : ∃ t, t = (s.drop k).takeWhile p := ⟨_, rfl⟩
  rw [← ht] at HIN HOUT HT hle ⊢
  clear ht hD hI2
  go_enter Tryz.func64, Tryz.ntmps64
  go_wp2
  clear c0 c1 c2 c3 f0 f1 f2 f3
  go_loopw [] (fun wr => ∃ j : Nat, j ≤ t.length ∧ Rk wr b s (k + j) x v ∧ w.grownBy wr (some b) ∧ I wr) (fun wr => s.length - atOf b wr)
  case atStart => exact ⟨0, Nat.zero_le _, hR, gb_refl _ _, hI⟩
  case round =>
    obtain ⟨j, hj, hRr, hg, hIr⟩ := hrel
    by_cases hlt : j < t.length
    · obtain ⟨h1, h2⟩ := HIN.out j hlt
      have h2' : (k : Int) + (j : Int) < (s.length : Int) := by omega
      go_wp2_with (go_at_call 79; (with_reducible refine (HH.out (k + j) _ hIr hRr).mono ?_); rintro e w1 ⟨rfl, hq⟩; have hR1 := hRr.of_bl hq.bl; have hI1 := HQ.out _ _ hIr hq; have hg1 := gb_trans hg (gb_qt (b := some b) hq); obtain ⟨c0, c1, c2, c3, f0, f1, f2, f3⟩ := hR1.cells)
      go_roundw
      case rel => exact ⟨j + 1, by omega, hR1.seti (by omega), gb_set hg1 _ _, HI2.out _ _ hI1⟩
      case measure =>
        have hz := (hR1.seti (n := (k : Int) + (j : Int) + 1) (j := k + j + 1) (by omega)).at_eq
        rw [hRr.at_eq, hz]; omega
    · obtain rfl : j = t.length := by omega
      have h1 := HOUT.out
      go_wp2_with (first | (go_at_call 79; (with_reducible refine (HH.out (k + t.length) _ hIr hRr).mono ?_); rintro e w1 ⟨rfl, hq⟩; have hR1 := hRr.of_bl hq.bl; have hI1 := HQ.out _ _ hIr hq; have hg1 := gb_trans hg (gb_qt (b := some b) hq); obtain ⟨c0, c1, c2, c3, f0, f1, f2, f3⟩ := hR1.cells) | go_quiet (fail))
      go_ret
      refine ⟨?_, hR1.of_bl ((Bl.refl _).drewN _), gb_drewN hg1 _, HQ.out _ _ hI1 ((Qt.refl _).drewN _)⟩
      have e : List.take (k + t.length - k) (List.drop k s) = t := by rw [Nat.add_sub_cancel_left]; exact HT.out
      show Ending.returned (.string ⟨(List.take (k + t.length - k) (List.drop k s)).toArray⟩) = _
      rw [e]
end Go.Proofs.YtoaecehkmoehjaaGreatDoor

namespace Go.Proofs.YtoaecehkmoehjaaGreatDoor
open Go.RowKit

def is61 (c : UInt8) : Bool := decide (c.toNat = 61)
def not60 (c : UInt8) : Bool := decide (c.toNat ≠ 60)
def isq (c : UInt8) : Bool := decide (c.toNat = 34) || decide (c.toNat = 39)
def Tr : World → Prop := fun _ => True

theorem cf_white : ∀ (args : Array Value) (W : World), Sem.run Tryz.prog (callFunc 83 args) W = .ok (.enter 83 args) W := by
  intro args W
  simp [callFunc, go_sem, Tryz.func83, Tryz.f83]
theorem do_white : Do 83 #[] wht Tr := ⟨cf_white, fun c W _ => (white_c c W).mono fun _ _ ⟨h, hw⟩ => ⟨h, hw ▸ Qt.refl _⟩, fun _ _ _ _ => trivial⟩
theorem cf_a1 : ∀ (args : Array Value) (W : World), Sem.run Tryz.prog (callFunc 96 args) W = .ok (.enter 96 args) W := by
  intro args W
  simp [callFunc, go_sem, Tryz.func96, Tryz.f96]
theorem clo_a1 (c : UInt8) (w : World) : Calls Tryz.prog 96 #[.int .u8 (c.toNat : Int)] w fun e w' => e = .returned (.bool (wsl c)) ∧ w = w' := by
  cases hW : wht c
  all_goals

    have WC := white_c c
    rw [hW] at WC
    have HW := Lib.hid hW
    have HC := Lib.hid WC
    clear hW WC
    go_enter Tryz.func96, Tryz.ntmps96
    go_wp2_with (go_at_call 83; refine (HC.out _).mono ?_; rintro e w' ⟨rfl, rfl⟩)
    all_goals
      go_ret
      exact ⟨ret_bool (by rw [Bool.eq_iff_iff]; simp [wsl, HW.out] <;> omega), rfl⟩
theorem do_a1 : Do 96 #[] wsl Tr := ⟨cf_a1, fun c W _ => (clo_a1 c W).mono fun _ _ ⟨h, hw⟩ => ⟨h, hw ▸ Qt.refl _⟩, fun _ _ _ _ => trivial⟩
theorem cf_a2 : ∀ (args : Array Value) (W : World), Sem.run Tryz.prog (callFunc 98 args) W = .ok (.enter 98 args) W := by
  intro args W
  simp [callFunc, go_sem, Tryz.func98, Tryz.f98]
theorem clo_a2 (c : UInt8) (w : World) : Calls Tryz.prog 98 #[.int .u8 (c.toNat : Int)] w fun e w' => e = .returned (.bool (nch c)) ∧ w = w' := by
  cases hW : wht c
  all_goals

    have WC := white_c c
    rw [hW] at WC
    have HW := Lib.hid hW
    have HC := Lib.hid WC
    clear hW WC
    go_enter Tryz.func98, Tryz.ntmps98
    go_wp2_with (go_at_call 83; refine (HC.out _).mono ?_; rintro e w' ⟨rfl, rfl⟩)
    all_goals
      go_ret
      exact ⟨ret_bool (by rw [Bool.eq_iff_iff]; simp [nch, HW.out] <;> omega), rfl⟩
theorem do_a2 : Do 98 #[] nch Tr := ⟨cf_a2, fun c W _ => (clo_a2 c W).mono fun _ _ ⟨h, hw⟩ => ⟨h, hw ▸ Qt.refl _⟩, fun _ _ _ _ => trivial⟩
theorem cf_a3 : ∀ (args : Array Value) (W : World), Sem.run Tryz.prog (callFunc 99 args) W = .ok (.enter 99 args) W := by
  intro args W
  simp [callFunc, go_sem, Tryz.func99, Tryz.f99]
theorem clo_a3 (c : UInt8) (w : World) : Calls Tryz.prog 99 #[.int .u8 (c.toNat : Int)] w fun e w' => e = .returned (.bool (is61 c)) ∧ w = w' := by

  go_enter Tryz.func99, Tryz.ntmps99
  go_wp2
  all_goals
    go_ret
    exact ⟨ret_bool (by rw [Bool.eq_iff_iff]; simp [is61] <;> omega), rfl⟩
theorem do_a3 : Do 99 #[] is61 Tr := ⟨cf_a3, fun c W _ => (clo_a3 c W).mono fun _ _ ⟨h, hw⟩ => ⟨h, hw ▸ Qt.refl _⟩, fun _ _ _ _ => trivial⟩
theorem cf_t1 : ∀ (args : Array Value) (W : World), Sem.run Tryz.prog (callFunc 82 args) W = .ok (.enter 82 args) W := by
  intro args W
  simp [callFunc, go_sem, Tryz.func82, Tryz.f82]
theorem clo_t1 (c : UInt8) (w : World) : Calls Tryz.prog 82 #[.int .u8 (c.toNat : Int)] w fun e w' => e = .returned (.bool (tch c)) ∧ w = w' := by
  cases hW : wht c
  all_goals

    have WC := white_c c
    rw [hW] at WC
    have HW := Lib.hid hW
    have HC := Lib.hid WC
    clear hW WC
    go_enter Tryz.func82, Tryz.ntmps82
    go_wp2_with (go_at_call 83; refine (HC.out _).mono ?_; rintro e w' ⟨rfl, rfl⟩)
    all_goals
      go_ret
      exact ⟨ret_bool (by rw [Bool.eq_iff_iff]; simp [tch, HW.out] <;> omega), rfl⟩
theorem do_t1 : Do 82 #[] tch Tr := ⟨cf_t1, fun c W _ => (clo_t1 c W).mono fun _ _ ⟨h, hw⟩ => ⟨h, hw ▸ Qt.refl _⟩, fun _ _ _ _ => trivial⟩
theorem cf_s1 : ∀ (args : Array Value) (W : World), Sem.run Tryz.prog (callFunc 65 args) W = .ok (.enter 65 args) W := by
  intro args W
  simp [callFunc, go_sem, Tryz.func65, Tryz.f65]
theorem clo_s1 (c : UInt8) (w : World) : Calls Tryz.prog 65 #[.int .u8 (c.toNat : Int)] w fun e w' => e = .returned (.bool (not60 c)) ∧ w = w' := by

  go_enter Tryz.func65, Tryz.ntmps65
  go_wp2
  all_goals
    go_ret
    exact ⟨ret_bool (by rw [Bool.eq_iff_iff]; simp [not60] <;> omega), rfl⟩
theorem do_s1 : Do 65 #[] not60 Tr := ⟨cf_s1, fun c W _ => (clo_s1 c W).mono fun _ _ ⟨h, hw⟩ => ⟨h, hw ▸ Qt.refl _⟩, fun _ _ _ _ => trivial⟩
theorem cf_v1 : ∀ (args : Array Value) (W : World), Sem.run Tryz.prog (callFunc 114 args) W = .ok (.enter 114 args) W := by
  intro args W
  simp [callFunc, go_sem, Tryz.func114, Tryz.f114]
theorem clo_v1 (c : UInt8) (w : World) : Calls Tryz.prog 114 #[.int .u8 (c.toNat : Int)] w fun e w' => e = .returned (.bool (isq c)) ∧ w = w' := by

  go_enter Tryz.func114, Tryz.ntmps114
  go_wp2
  all_goals
    go_ret
    exact ⟨ret_bool (by rw [Bool.eq_iff_iff]; simp [isq] <;> omega), rfl⟩
theorem do_v1 : Do 114 #[] isq Tr := ⟨cf_v1, fun c W _ => (clo_v1 c W).mono fun _ _ ⟨h, hw⟩ => ⟨h, hw ▸ Qt.refl _⟩, fun _ _ _ _ => trivial⟩
theorem cf_v3 : ∀ (args : Array Value) (W : World), Sem.run Tryz.prog (callFunc 116 args) W = .ok (.enter 116 args) W := by
  intro args W
  simp [callFunc, go_sem, Tryz.func116, Tryz.f116]
theorem clo_v3 (c : UInt8) (w : World) : Calls Tryz.prog 116 #[.int .u8 (c.toNat : Int)] w fun e w' => e = .returned (.bool (vch c)) ∧ w = w' := by
  cases hW : wht c
  all_goals

    have WC := white_c c
    rw [hW] at WC
    have HW := Lib.hid hW
    have HC := Lib.hid WC
    clear hW WC
    go_enter Tryz.func116, Tryz.ntmps116
    go_wp2_with (go_at_call 83; refine (HC.out _).mono ?_; rintro e w' ⟨rfl, rfl⟩)
    all_goals
      go_ret
      exact ⟨ret_bool (by rw [Bool.eq_iff_iff]; simp [vch, HW.out] <;> omega), rfl⟩
theorem do_v3 : Do 116 #[] vch Tr := ⟨cf_v3, fun c W _ => (clo_v3 c W).mono fun _ _ ⟨h, hw⟩ => ⟨h, hw ▸ Qt.refl _⟩, fun _ _ _ _ => trivial⟩
theorem Tr2 (b : Nat) : ∀ W u, Tr W → Tr (W.setCell ⟨b, 1, none⟩ u) := fun _ _ _ => trivial

/-- What a reader gives up with. -/
def OPN : List PanicEntry := [{ v := .iface 74 (.agg #[]), recovered := false }]
set_option maxHeartbeats 1000000 in
theorem need_no (b : Nat) (s x : List UInt8) (v : Value) (w : World) (hR : Rk w b s s.length x v) :
    Calls Tryz.prog 97 #[.pointer (some ⟨b, 0, none⟩)] w fun e w' => e = .panicked OPN ∧ Qt w w' := by
  obtain ⟨c0, c1, c2, c3, f0, f1, f2, f3⟩ := hR.cells
  clear hR
  go_enter Tryz.func97, Tryz.ntmps97
  go_wp2_with (go_quiet (fail))
  exact ⟨rfl, rfl, (Qt.refl _).drewN _⟩
set_option maxHeartbeats 1000000 in
theorem need_yes (b k : Nat) (s x : List UInt8) (v : Value) (w : World) (hR : Rk w b s k x v) (hk : k < s.length) (hs : s.length ≤ 1099511627776) :
    Calls Tryz.prog 97 #[.pointer (some ⟨b, 0, none⟩)] w fun e w' => e = .returned (.int .u8 (s[k].toNat : Int)) ∧ Rk w' b s (k + 1) x v ∧ w.grownBy w' (some b) := by
  obtain ⟨c0, c1, c2, c3, f0, f1, f2, f3⟩ := hR.cells
  have hne : ((k : Int) == (s.length : Int)) = false := by simp; omega
  have hk' : (k : Int) < (s.length : Int) := by omega
  go_enter Tryz.func97, Tryz.ntmps97
  go_wp2_with (go_quiet (fail))
  go_ret
  exact ⟨rfl, (((hR.of_bl ((Bl.refl _).drewN _)).seti (by omega)).of_bl ((Bl.refl _).drewN _)), gb_drewN (gb_set (gb_drewN (gb_refl _ _) _) _ _) _⟩
end Go.Proofs.YtoaecehkmoehjaaGreatDoor

namespace Go.Proofs.YtoaecehkmoehjaaGreatDoor
open Go.RowKit

/-- The reader, by what is left. -/
structure Rr (w : World) (b : Nat) (s t x : List UInt8) (v : Value) : Prop where
  rk : Rk w b s (s.length - t.length) x v
  sf : t <:+ s
theorem sfx_drop {s t : List UInt8} (h : t <:+ s) : s.drop (s.length - t.length) = t := by
  obtain ⟨p, rfl⟩ := h
  simp
theorem Rr.of_bl {w w' : World} {b : Nat} {s t x : List UInt8} {v : Value} (h : Rr w b s t x v) (hb : Bl w w') : Rr w' b s t x v := ⟨h.rk.of_bl hb, h.sf⟩
theorem Rr.len {w : World} {b : Nat} {s t x : List UInt8} {v : Value} (h : Rr w b s t x v) : t.length ≤ s.length := h.sf.length_le

theorem here_r (N : Nat) (p : UInt8 → Bool) (hD : Do N #[] p Tr) (b : Nat) (s t x : List UInt8) (v : Value) (w : World) (hR : Rr w b s t x v) (hs : s.length ≤ 1099511627776) :
    Calls Tryz.prog 79 #[.pointer (some ⟨b, 0, none⟩), .func (.func N) #[] #[]] w fun e w' => e = .returned (.bool (hd p t)) ∧ Qt w w' := by
  have := here_c N #[] p Tr hD b _ s x v w trivial hR.rk hs
  rwa [sfx_drop hR.sf] at this
theorem pass_r0 (N : Nat) (cap : Array Value) (p : UInt8 → Bool) (I : World → Prop) (hD : Do N cap p I) (b : Nat) (s t x : List UInt8) (v : Value) (w : World) (hI : I w) (hI2 : ∀ W u, I W → I (W.setCell ⟨b, 1, none⟩ u)) (hR : Rr w b s t x v) (hs : s.length ≤ 1099511627776) :
    Calls Tryz.prog 64 #[.pointer (some ⟨b, 0, none⟩), .func (.func N) #[] cap] w fun e w' => e = .returned (.string ⟨(t.takeWhile p).toArray⟩) ∧
      Rr w' b s (t.dropWhile p) x v ∧ w.grownBy w' (some b) := by
  refine (pass_c N cap p I hD b _ s x v w hI hI2 hR.rk (Nat.sub_le _ _) hs).mono ?_
  rintro e w' ⟨rfl, h1, h2, -⟩
  rw [sfx_drop hR.sf] at h1 ⊢
  have hl := hR.len
  have e : s.length - t.length + (t.takeWhile p).length = s.length - (t.dropWhile p).length := by
    have := congrArg List.length (List.takeWhile_append_dropWhile (p := p) (l := t))
    rw [List.length_append] at this; omega
  rw [e] at h1
  exact ⟨rfl, ⟨h1, (List.dropWhile_suffix p).trans hR.sf⟩, h2⟩
theorem pass_r (N : Nat) (p : UInt8 → Bool) (hD : Do N #[] p Tr) (b : Nat) (s t x : List UInt8) (v : Value) (w : World) (hR : Rr w b s t x v) (hs : s.length ≤ 1099511627776) :
    Calls Tryz.prog 64 #[.pointer (some ⟨b, 0, none⟩), .func (.func N) #[] #[]] w fun e w' => e = .returned (.string ⟨(t.takeWhile p).toArray⟩) ∧
      Rr w' b s (t.dropWhile p) x v ∧ w.grownBy w' (some b) := pass_r0 N #[] p Tr hD b s t x v w trivial (Tr2 b) hR hs
theorem need_end (b : Nat) (s x : List UInt8) (v : Value) (w : World) (hR : Rr w b s [] x v) :
    Calls Tryz.prog 97 #[.pointer (some ⟨b, 0, none⟩)] w fun e w' => e = .panicked OPN ∧ Qt w w' := need_no b s x v w (by simpa using hR.rk)
theorem need_r (b : Nat) (s : List UInt8) (c : UInt8) (t x : List UInt8) (v : Value) (w : World) (hR : Rr w b s (c :: t) x v) (hs : s.length ≤ 1099511627776) :
    Calls Tryz.prog 97 #[.pointer (some ⟨b, 0, none⟩)] w fun e w' => e = .returned (.int .u8 (c.toNat : Int)) ∧ Rr w' b s t x v ∧ w.grownBy w' (some b) := by
  have hl := hR.len
  simp only [List.length_cons] at hl
  have hd := sfx_drop hR.sf
  rw [List.length_cons] at hd
  have hk : s.length - (t.length + 1) < s.length := by omega
  have hc : s[s.length - (t.length + 1)] = c := by
    have := List.drop_eq_getElem_cons hk
    rw [hd] at this
    exact (List.cons.inj this).1.symm
  refine (need_yes b _ s x v w hR.rk hk hs).mono ?_
  rintro e w' ⟨rfl, h1, h2⟩
  refine ⟨by simp only [List.length_cons, hc], ⟨?_, (List.suffix_cons c t).trans hR.sf⟩, h2⟩
  rw [show s.length - t.length = s.length - (c :: t).length + 1 by simp only [List.length_cons]; omega]
  exact h1

set_option maxHeartbeats 1000000 in
theorem begins_r (p : List UInt8) (b : Nat) (s t x : List UInt8) (v : Value) (w : World) (hR : Rr w b s t x v) (_hs : s.length ≤ 1099511627776) :
    Calls Tryz.prog 63 #[.pointer (some ⟨b, 0, none⟩), .string ⟨p.toArray⟩] w fun e w' => e = .returned (.bool (pre p t)) ∧ Qt w w' := by
  obtain ⟨c0, c1, c2, c3, f0, f1, f2, f3⟩ := hR.rk.cells
  have hd := sfx_drop hR.sf
  have hk : s.length - t.length ≤ s.length := Nat.sub_le _ _
  obtain ⟨k, hk'⟩ : ∃ k, k = s.length - t.length := ⟨_, rfl⟩
  rw [← hk'] at c1 hd hk
  have HD := Lib.hid hd
  clear hR hk' hd
  go_enter Tryz.func63, Tryz.ntmps63
  go_wp2_with (go_quiet (first | (go_at_call 78; exact quiet_eq (hasPrefix_c (s.drop k) p _))))
  go_ret
  exact ⟨by rw [← HD.out]; rfl, (Qt.refl _).drewN _⟩

set_option maxHeartbeats 1000000 in
theorem letterAt_r (m : Nat) (hm : m ≤ 2) (b : Nat) (s t x : List UInt8) (v : Value) (w : World) (hR : Rr w b s t x v) (hs : s.length ≤ 1099511627776) :
    Calls Tryz.prog 66 #[.pointer (some ⟨b, 0, none⟩), .int .i64 (m : Int)] w fun e w' => e = .returned (.bool (hd ltr (t.drop m))) ∧ Qt w w' := by
  obtain ⟨c0, c1, c2, c3, f0, f1, f2, f3⟩ := hR.rk.cells
  have hd := sfx_drop hR.sf
  have hk : s.length - t.length ≤ s.length := Nat.sub_le _ _
  obtain ⟨k, hk'⟩ : ∃ k, k = s.length - t.length := ⟨_, rfl⟩
  rw [← hk'] at c1 hd hk
  rw [← hd, List.drop_drop]
  clear hR hk' hd
  by_cases hlt : k + m < s.length
  · have hlt' : (k : Int) + (m : Int) < (s.length : Int) := by omega
    have H1 := Lib.hid (hd_drop ltr s (k + m) hlt)
    have hn : ((k : Int) + (m : Int)).toNat = k + m := by omega
    have h0 : (0 : Int) ≤ (k : Int) + (m : Int) := by omega
    go_enter Tryz.func66, Tryz.ntmps66
    go_wp2_with (go_quiet (first | (go_at_call 80; exact quiet_eq (letter_c s[k + m] _))))
    go_ret
    exact ⟨by rw [H1.out]; rfl, (Qt.refl _).drewN _⟩
  · have hlt' : decide ((k : Int) + (m : Int) < (s.length : Int)) = false := by simp; omega
    have H1 := Lib.hid (hd_end ltr s (k + m) (by omega))
    go_enter Tryz.func66, Tryz.ntmps66
    go_wp2_with (go_quiet (fail))
    go_ret
    exact ⟨by rw [H1.out]; rfl, (Qt.refl _).drewN _⟩

/-- The variable bytealg.MaxLen holds some number. -/
def ML (w : World) : Prop := ∃ m, 0 < w.heap.size ∧ w.cell? ⟨0, 0, none⟩ = some (.int .i64 m)
theorem ML.of_bl {w w' : World} (h : ML w) (hb : Bl w w') : ML w' := by
  obtain ⟨m, h1, h2⟩ := h
  exact ⟨m, Nat.lt_of_lt_of_le h1 (Below.size hb), (hb.cells.1 _ 0 h1).trans h2⟩
theorem ML.of_gb {w w' : World} {b : Nat} (h : ML w) (hg : w.grownBy w' (some b)) (hb : 0 < b) : ML w' := by
  obtain ⟨m, h1, h2⟩ := h
  exact ⟨m, Nat.lt_of_lt_of_le h1 hg.size, hg.cell h2 (by simp; omega)⟩
theorem find_c (l p : List UInt8) (hl : l.length ≤ 4294967280) (w : World) (hM : ML w) :
    Calls Tryz.prog 85 #[.string ⟨l.toArray⟩, .string ⟨p.toArray⟩] w fun e w' => e = .returned (.int .i64 (Lib.index l p)) ∧ w = w' := by
  obtain ⟨m, h1, h2⟩ := hM
  exact (Tryz.strings_Index ⟨l.toArray⟩ ⟨p.toArray⟩ m w (by simp [ByteArray.size]; omega) h2).mono fun _ _ ⟨he, hw⟩ => ⟨he, hw.symm⟩
theorem cutS_index (p : List UInt8) (hp : p ≠ []) : ∀ l : List UInt8, (Lib.index l p = -1 ∧ cutS p l = none) ∨ (∃ i : Nat, Lib.index l p = i ∧ i + p.length ≤ l.length ∧ cutS p l = some (l.drop (i + p.length))) := by
  intro l
  induction l with
  | nil =>
    left
    cases p with
    | nil => exact absurd rfl hp
    | cons a p => exact ⟨rfl, rfl⟩
  | cons c l ih =>
    by_cases h : pre p (c :: l) = true
    · right
      refine ⟨0, ?_, by have := pre_len h; omega, ?_⟩
      · unfold Lib.index; rw [show p.isPrefixOf (c :: l) = true from h]; rfl
      · unfold cutS; rw [if_pos h]; simp
    · have h' : p.isPrefixOf (c :: l) = false := Bool.eq_false_iff.2 h
      rcases ih with ⟨h1, h2⟩ | ⟨i, h1, h2, h3⟩
      · left
        refine ⟨?_, ?_⟩
        · unfold Lib.index; rw [h', h1]; rfl
        · unfold cutS; rw [if_neg h, h2]
      · right
        refine ⟨i + 1, ?_, by simp only [List.length_cons]; omega, ?_⟩
        · unfold Lib.index; rw [h', h1]
          have : ((i : Int) == -1) = false := by rw [beq_eq_false_iff_ne]; omega
          simp [this]
        · unfold cutS; rw [if_neg h, h3, Nat.add_right_comm]; rfl

set_option maxHeartbeats 1000000 in
theorem to_no (p : List UInt8) (hp : p ≠ []) (_hp2 : p.length ≤ 3) (m : Nat) (hm : m ≤ 2) (b : Nat) (s t x : List UInt8) (v : Value) (w : World) (hR : Rr w b s t x v) (hs : s.length ≤ 4294967280) (hM : ML w) (hc : cutS p (t.drop m) = none) :
    Calls Tryz.prog 68 #[.pointer (some ⟨b, 0, none⟩), .string ⟨p.toArray⟩, .int .i64 (m : Int)] w fun e w' => e = .panicked OPN ∧ Qt w w' := by
  obtain ⟨c0, c1, c2, c3, f0, f1, f2, f3⟩ := hR.rk.cells
  have hd := sfx_drop hR.sf
  have hk : s.length - t.length ≤ s.length := Nat.sub_le _ _
  obtain ⟨k, hk'⟩ : ∃ k, k = s.length - t.length := ⟨_, rfl⟩
  rw [← hk'] at c1 hd hk
  rw [← hd, List.drop_drop] at hc
  have hi : Lib.index (s.drop (k + m)) p = -1 := by
    rcases cutS_index p hp (s.drop (k + m)) with ⟨h1, _⟩ | ⟨i, _, _, h3⟩
    · exact h1
    · rw [hc] at h3; cases h3
  have hmin : min (s.length : Int) ((k : Int) + (m : Int)) = ((min s.length (k + m) : Nat) : Int) := by omega
  have hmd : s.drop (min s.length (k + m)) = s.drop (k + m) := by
    rcases Nat.le_total s.length (k + m) with h | h
    · rw [Nat.min_eq_left h, List.drop_eq_nil_of_le (Nat.le_refl _), List.drop_eq_nil_of_le h]
    · rw [Nat.min_eq_right h]
  have hml : min s.length (k + m) ≤ s.length := Nat.min_le_left _ _
  obtain ⟨j, hj⟩ : ∃ j, j = min s.length (k + m) := ⟨_, rfl⟩
  rw [← hj] at hmin hmd hml
  have FC := Lib.hid (fun n : Nat => find_c (s.drop j) p (by simp; omega) (w.drewN n) (hM.of_bl ((Bl.refl _).drewN n)))
  rw [hmd, hi] at FC
  rw [← hmd] at FC
  clear hR hk' hd hc hi hmd hj
  go_enter Tryz.func68, Tryz.ntmps68
  go_wp2_with (go_quiet (first | (go_at_call 85; exact quiet_eq (FC.out _))))
  exact ⟨rfl, rfl, (Qt.refl _).drewN _⟩
set_option maxHeartbeats 1000000 in
theorem to_yes (p : List UInt8) (hp : p ≠ []) (hp2 : p.length ≤ 3) (m : Nat) (hm : m ≤ 2) (b : Nat) (s t x u : List UInt8) (v : Value) (w : World) (hR : Rr w b s t x v) (hs : s.length ≤ 4294967280) (hM : ML w) (hc : cutS p (t.drop m) = some u) :
    Calls Tryz.prog 68 #[.pointer (some ⟨b, 0, none⟩), .string ⟨p.toArray⟩, .int .i64 (m : Int)] w fun e w' => e = .returned (.tuple #[]) ∧ Rr w' b s u x v ∧ w.grownBy w' (some b) := by
  obtain ⟨c0, c1, c2, c3, f0, f1, f2, f3⟩ := hR.rk.cells
  have hd := sfx_drop hR.sf
  have hk : s.length - t.length ≤ s.length := Nat.sub_le _ _
  have hRk := hR.rk
  obtain ⟨k, hk'⟩ : ∃ k, k = s.length - t.length := ⟨_, rfl⟩
  rw [← hk'] at c1 hd hk hRk
  rw [← hd, List.drop_drop] at hc
  obtain ⟨i, hi, hil, hu⟩ : ∃ i : Nat, Lib.index (s.drop (k + m)) p = i ∧ i + p.length ≤ (s.drop (k + m)).length ∧ u = s.drop (k + m + (i + p.length)) := by
    rcases cutS_index p hp (s.drop (k + m)) with ⟨_, h1⟩ | ⟨i, h1, h2, h3⟩
    · rw [hc] at h1; cases h1
    · rw [hc, List.drop_drop] at h3; exact ⟨i, h1, h2, Option.some.inj h3⟩
  rw [List.length_drop] at hil
  have hp0 : 0 < p.length := List.length_pos_iff.2 hp
  have hkm : k + m ≤ s.length := by omega
  have hmin : min (s.length : Int) ((k : Int) + (m : Int)) = ((k + m : Nat) : Int) := by omega
  have FC := Lib.hid (fun n : Nat => find_c (s.drop (k + m)) p (by simp; omega) (w.drewN n) (hM.of_bl ((Bl.refl _).drewN n)))
  rw [hi] at FC
  have hul : k + m + (i + p.length) = s.length - u.length := by rw [hu, List.length_drop]; omega
  have HU := Lib.hid hul
  have HS := Lib.hid (show u <:+ s by rw [hu]; exact List.drop_suffix _ _)
  have i0 : ¬ (i : Int) < 0 := by omega
  have hib : k + m + i + p.length ≤ s.length := by omega
  clear hR hk' hd hc hi hu hul
  go_enter Tryz.func68, Tryz.ntmps68
  go_wp2_with (go_quiet (first | (go_at_call 85; exact quiet_eq (FC.out _))))
  go_end0
  exact ⟨rfl, ⟨(hRk.of_bl ((Bl.refl _).drewN _)).seti (by rw [← HU.out]; omega), HS.out⟩, gb_set (gb_drewN (gb_refl _ _) _) _ _⟩
end Go.Proofs.YtoaecehkmoehjaaGreatDoor

namespace Go.Proofs.YtoaecehkmoehjaaGreatDoor
open Go.RowKit

theorem fld_nat (c : UInt8) : (fld c).toNat = if 65 ≤ c.toNat ∧ c.toNat ≤ 90 then c.toNat + 32 else c.toNat := by
  unfold fld
  split
  · rename_i h
    rw [UInt8.toNat_add]
    simp only [show (32 : UInt8).toNat = 32 from rfl]
    omega
  · rfl
theorem fold_len (l : List UInt8) : (fold l).length = l.length := by simp [fold]
theorem conv_cap (W : World) (g cap : Nat) (l : List UInt8) (h : BA W g l) : (convert 61 9 (.slice (some ⟨g, 0, none⟩) l.length cap)).run Tryz.prog W = .ok (.string ⟨l.toArray⟩) W := by
  have h1 := run_convert_bytes_arg (P := Tryz.prog) W 61 5 Tryz.underlying61 Tryz.underlying5 g 0 l.length cap (l.map fun c => (c.toNat : Int)) (by simp) (fun i hi => by
    rw [Nat.zero_add, h i hi]
    simp [List.getD, hi]) 9 Tryz.underlying9
  have e : (l.map fun c => (c.toNat : Int)).map (fun n => UInt8.ofNat n.toNat) = l := by
    rw [List.map_map]
    exact (List.map_congr_left (fun c _ => by simp)).trans (List.map_id l)
  rw [h1, strOfNums, e]
/-- The first k bytes are small, the others as they were. -/
def FA (w : World) (g : Nat) (l : List UInt8) (k : Nat) : Prop := ∀ i, (h : i < l.length) → w.cell? ⟨g, i, none⟩ = some (.int .u8 ((if i < k then fld l[i] else l[i]).toNat : Int)) ∧ w.frozen? ⟨g, i, none⟩ = false
theorem FA.skip {w : World} {g k : Nat} {l : List UInt8} (h : FA w g l k) (hk : k < l.length) (hs : fld l[k] = l[k]) : FA w g l (k + 1) := by
  intro i hi
  refine ⟨?_, (h i hi).2⟩
  rw [(h i hi).1]
  by_cases e : i = k
  · subst e; simp [hs]
  · have : (i < k + 1) = (i < k) := by simp; omega
    simp only [this]
theorem FA.set {w : World} {g k : Nat} {l : List UInt8} (h : FA w g l k) (hk : k < l.length) {n : Int} (hn : n = ((fld l[k]).toNat : Int)) : FA (w.setCell ⟨g, k, none⟩ (.int .u8 n)) g l (k + 1) := by
  intro i hi
  by_cases e : i = k
  · subst e
    refine ⟨?_, by rw [World.frozen?_setCell]; exact (h i hi).2⟩
    rw [hn, World.cell?_setCell_same w _ _ (by rw [(h i hi).1])]
    simp
  · refine ⟨?_, by rw [World.frozen?_setCell]; exact (h i hi).2⟩
    rw [World.cell?_setCell_other w _ _ _ (by simp []), (h i hi).1]
    have : (i < k + 1) = (i < k) := by simp; omega
    simp only [this]

theorem FA_brow (w : World) (l : List UInt8) (cap : Nat) (t : TypeId) : FA (w.alloc (brow l cap t)) w.heap.size l 0 := by
  intro i hi
  refine ⟨by rw [BA_brow w l cap t i hi]; simp, ?_⟩
  unfold brow; rw [World.frozen?_alloc_mark]; simp [bytesRow]; omega
set_option maxHeartbeats 1000000 in
theorem folded_c (l : List UInt8) (hl : l.length ≤ 1099511627776) (w : World) :
    Calls Tryz.prog 81 #[.string ⟨l.toArray⟩] w fun e w' => e = .returned (.string ⟨(fold l).toArray⟩) ∧ Bl w w' := by
  have hcv := of_str
  have HCV := Lib.hid (conv_cap)
  go_enter Tryz.func81, Tryz.ntmps81
  go_wp2
  go_loopw [4, 5, 10] (fun _ _ i wr => ∃ k : Nat, k ≤ l.length ∧ i = .int .i64 k ∧ FA wr w.heap.size l k ∧ Below w.heap.size w wr) (fun _ _ i _ => l.length - (intOf i).toNat)
  case atStart => exact ⟨0, Nat.zero_le _, rfl, FA_brow w.drew l _ _, (Bl.refl _).drew.alloc _⟩
  case round =>
    obtain ⟨k, hk, rfl, hF, hbl⟩ := hrel
    by_cases hlt : k < l.length
    · have hc := u8_lt l[k]
      have hck := (hF k hlt).1
      simp only [Nat.lt_irrefl, if_false] at hck
      have hfk := (hF k hlt).2
      have hfn := fld_nat l[k]
      by_cases hu : 65 ≤ l[k].toNat ∧ l[k].toNat ≤ 90
      · rw [if_pos hu] at hfn
        have HU := Lib.hid hfn
        obtain ⟨u1, u2⟩ := hu
        have u1' : (65 : Int) ≤ (l[k].toNat : Int) := by omega
        have u2' : (l[k].toNat : Int) ≤ 90 := by omega
        clear hfn
        go_wp2
        go_roundw
        case rel => exact ⟨k + 1, by omega, by go_num, hF.set hlt (by rw [HU.out]; omega), Below.setCell hbl (Nat.le_refl _) _⟩
        case measure => simp [intOf]; omega
      · rw [if_neg hu] at hfn
        have HU := Lib.hid (UInt8.toNat_inj.1 hfn)
        have hu' : (decide ((65 : Int) ≤ (l[k].toNat : Int)) && decide ((l[k].toNat : Int) ≤ 90)) = false := by
          cases h : (decide ((65 : Int) ≤ (l[k].toNat : Int)) && decide ((l[k].toNat : Int) ≤ 90))
          · rfl
          · simp only [Bool.and_eq_true, decide_eq_true_eq] at h; omega
        have HU2 := Lib.hid hu
        clear hfn hu
        go_wp2
        all_goals first
          | (exfalso; have := HU2.out; omega)
          | (go_roundw
             case rel => exact ⟨k + 1, by omega, by go_num, hF.skip hlt HU.out, hbl⟩
             case measure => simp [intOf]; omega)
    · have hB : BA wr w.heap.size (fold l) := by
        intro i hi
        rw [fold_len] at hi
        rw [(hF i hi).1, if_pos (by omega)]
        simp [fold]
      have hcv2 := fun cap => conv_cap wr w.heap.size cap (fold l) hB
      rw [fold_len] at hcv2
      clear hcv
      go_wp2
      go_ret
      exact ⟨rfl, hbl⟩

def bcs (l : List UInt8) : List Value := l.map fun c => .int .u8 (c.toNat : Int)
theorem bcs_len (l : List UInt8) : (bcs l).length = l.length := by simp [bcs]
/-- What was laid in a new block stands there. -/
theorem new_cells (w : World) (c : Array Value) (e : TypeId) : ∀ j u, c.toList[j]? = some u → (w.alloc (.cells c e)).cell? ((⟨w.heap.size, 0, none⟩ : Addr).add j) = some u := by
  intro j u h
  have hadd : (⟨w.heap.size, 0, none⟩ : Addr).add j = ⟨w.heap.size, j, none⟩ := by unfold Addr.add; split <;> simp_all
  rw [hadd]
  simpa using h
theorem conv_own (W : World) (base : Nat) (v : Value) (l : List UInt8) (h : W.ownsRow base 5 1 v l.length (bcs l)) : (convert 61 9 v).run Tryz.prog W = .ok (.string ⟨l.toArray⟩) W := by
  rcases h.2 with ⟨rfl, h0⟩ | ⟨g, cap, cur, rfl, -, -, -⟩
  · obtain rfl := List.eq_nil_of_length_eq_zero h0
    have := run_convert_bytes_nil (P := Tryz.prog) W 61 5 Tryz.underlying61 Tryz.underlying5 0 0
    exact this _ Tryz.underlying9
  · refine conv_cap W g cap l (fun i hi => ?_)
    have := h.cells (g := g) rfl i (.int .u8 (l[i].toNat : Int)) (by simp [bcs, hi])
    by_cases e : i = 0
    · subst e; simpa [Addr.add] using this
    · simpa [Addr.add, e] using this
theorem Tryz.infoU8 : (Tryz.prog.info? 5).map (fun i => (i.zero, i.size, i.bytes)) = some (some (.int .u8 0), 1, 1) := by kernel_rfl
set_option maxHeartbeats 1000000 in
theorem foldOf_c (l : List UInt8) (hl : l.length ≤ 1099511627776) (w : World) :
    Calls Tryz.prog 28 #[.string ⟨l.toArray⟩] w fun e w' => e = .returned (.string ⟨(fold l).toArray⟩) ∧ Bl w w' := by
  obtain ⟨i0, hi, hz0, hz1, hz2⟩ := info_parts Tryz.infoU8
  go_enter Tryz.func28, Tryz.ntmps28
  go_wp2
  go_loopw [3, 4, 5] (fun v i _ wr => ∃ k : Nat, k ≤ l.length ∧ i = .int .i64 k ∧ wr.ownsRow w.heap.size 5 1 v (fold (l.take k)).length (bcs (fold (l.take k))) ∧ Below w.heap.size w wr) (fun _ i _ _ => l.length - (intOf i).toNat)
  case atStart => exact ⟨0, Nat.zero_le _, rfl, World.ownsRow_nil _ _ _ _, Bl.refl _⟩
  case round =>
    obtain ⟨k, hk, rfl, hown, hbl⟩ := hrel
    have hsz := Below.size hbl
    by_cases hlt : k < l.length
    · have hc := u8_lt l[k]
      have hfn := fld_nat l[k]
      have hkl : (fold (l.take k)).length = k := by simp [fold]; omega
      have HT := Lib.hid (show bcs (fold (l.take (k + 1))) = bcs (fold (l.take k)) ++ [.int .u8 ((fld l[k]).toNat : Int)] by rw [take_snoc l k hlt]; unfold bcs fold; rw [List.map_append, List.map_append]; rfl)
      have HL := Lib.hid (show (fold (l.take (k + 1))).length = k + 1 by simp [fold]; omega)
      rw [hkl] at hown
      clear hkl
      by_cases hu : 65 ≤ l[k].toNat ∧ l[k].toNat ≤ 90
      · rw [if_pos hu] at hfn
        have HU := Lib.hid hfn
        obtain ⟨u1, u2⟩ := hu
        have u1' : (65 : Int) ≤ (l[k].toNat : Int) := by omega
        have u2' : (l[k].toNat : Int) ≤ 90 := by omega
        clear hfn
        go_wp2_with (first | (go_at_call 20; refine (between_c _ _ _ _).mono ?_; rintro e w' ⟨rfl, rfl⟩) | (at_builtin; refine wpList_append_own _ rfl _ _ 61 rfl w.heap.size 5 i0 (.int .u8 0) 1 1 Tryz.underlying61 hi hz0 hz1 hz2 rfl (by decide) _ _ _ rfl (hown.alloc _) ⟨wr.heap.size, 0, none⟩ 1 1 [.int .u8 ((l[k].toNat : Int) + 32)] rfl rfl (new_cells wr #[.int .u8 ((l[k].toNat : Int) + 32)] _) (by simp [Value.oneCell']) (by unfold maxLen; omega) (by omega) (by simp; omega) ?_))
        · intro v' w1 hown' hgrow _
          have hB' := (hbl.alloc hsz _).grown hgrow (by simp; omega) (fun g hg => (hown.lt g hg).1)
          have hO : w1.ownsRow w.heap.size 5 1 v' (fold (l.take (k + 1))).length (bcs (fold (l.take (k + 1)))) := by
            rw [HL.out, HT.out, HU.out]; simpa using hown'
          clear hown' hgrow hown
          go_wp2
          go_roundw
          case rel => exact ⟨k + 1, by omega, by go_num, hO, hB'⟩
          case measure => simp [intOf]; omega
      · rw [if_neg hu] at hfn
        have HU := Lib.hid (UInt8.toNat_inj.1 hfn)
        have hu' : (decide ((65 : Int) ≤ (l[k].toNat : Int)) && decide ((l[k].toNat : Int) ≤ 90)) = false := by
          cases h : (decide ((65 : Int) ≤ (l[k].toNat : Int)) && decide ((l[k].toNat : Int) ≤ 90))
          · rfl
          · simp only [Bool.and_eq_true, decide_eq_true_eq] at h; omega
        have HU2 := Lib.hid hu
        clear hfn hu
        go_wp2_with (first | (go_at_call 20; refine (between_c _ _ _ _).mono ?_; rintro e w' ⟨rfl, rfl⟩) | (at_builtin; refine wpList_append_own _ rfl _ _ 61 rfl w.heap.size 5 i0 (.int .u8 0) 1 1 Tryz.underlying61 hi hz0 hz1 hz2 rfl (by decide) _ _ _ rfl (hown.alloc _) ⟨wr.heap.size, 0, none⟩ 1 1 [.int .u8 (l[k].toNat : Int)] rfl rfl (new_cells wr #[.int .u8 (l[k].toNat : Int)] _) (by simp [Value.oneCell']) (by unfold maxLen; omega) (by omega) (by simp; omega) ?_))
        all_goals first
          | (exfalso; have := HU2.out; omega)
          | skip
        · intro v' w1 hown' hgrow _
          have hB' := (hbl.alloc hsz _).grown hgrow (by simp; omega) (fun g hg => (hown.lt g hg).1)
          have hO : w1.ownsRow w.heap.size 5 1 v' (fold (l.take (k + 1))).length (bcs (fold (l.take (k + 1)))) := by
            rw [HL.out, HT.out, HU.out]; exact hown'
          clear hown' hgrow hown
          go_wp2
          go_roundw
          case rel => exact ⟨k + 1, by omega, by go_num, hO, hB'⟩
          case measure => simp [intOf]; omega
    · have HE := Lib.hid (show l.take k = l from List.take_of_length_le (by omega))
      rw [HE.out] at hown
      have hcv := fun v h => conv_own wr w.heap.size v (fold l) h
      have hcv2 := hcv _ hown
      clear hcv
      go_wp2
      go_ret
      exact ⟨rfl, hbl⟩
end Go.Proofs.YtoaecehkmoehjaaGreatDoor

namespace Go.Proofs.YtoaecehkmoehjaaGreatDoor
open Go.RowKit

theorem cf_v2 : ∀ (args : Array Value) (W : World), Sem.run Tryz.prog (callFunc 115 args) W = .ok (.enter 115 args) W := by
  intro args W
  simp [callFunc, go_sem, Tryz.func115, Tryz.f115]
theorem clo_v2 (c Q : UInt8) (q : Nat) (w : World) (hq : w.cell? ⟨q, 0, none⟩ = some (.int .u8 (Q.toNat : Int))) :
    Calls Tryz.prog 115 #[.int .u8 (c.toNat : Int), .pointer (some ⟨q, 0, none⟩)] w fun e w' => e = .returned (.bool (c != Q)) ∧ w = w' := by
  go_enter Tryz.func115, Tryz.ntmps115
  go_wp2
  go_ret
  refine ⟨ret_bool ?_, rfl⟩
  rw [Bool.eq_iff_iff]
  simp only [bne_iff_ne, ne_eq]
  constructor
  · intro h e; exact h (by rw [e])
  · intro h e; exact h (UInt8.toNat_inj.1 (by omega))
theorem do_v2 (Q : UInt8) (q : Nat) : Do 115 #[.pointer (some ⟨q, 0, none⟩)] (· != Q) (fun W => W.cell? ⟨q, 0, none⟩ = some (.int .u8 (Q.toNat : Int))) :=
  ⟨cf_v2, fun c W h => (clo_v2 c Q q W h).mono fun _ _ ⟨h, hw⟩ => ⟨h, hw ▸ Qt.refl _⟩, fun W W' h hq => by obtain ⟨n, rfl⟩ := hq; exact h⟩
theorem hd_isq (q : UInt8) (r : List UInt8) : (hd isq (q :: r) = true) ↔ (q = 34 ∨ q = 39) := by
  have h1 : q.toNat = 34 ↔ q = 34 := ⟨fun h => UInt8.toNat_inj.1 h, fun h => by rw [h]; rfl⟩
  have h2 : q.toNat = 39 ↔ q = 39 := ⟨fun h => UInt8.toNat_inj.1 h, fun h => by rw [h]; rfl⟩
  simp [hd, isq, h1, h2]
theorem alloc_gb (w : World) (o : Obj) (b : Option Nat) : w.grownBy (w.alloc o) b := World.grownBy_alloc w o b

set_option maxHeartbeats 1000000 in
theorem value_plain (b : Nat) (s t x : List UInt8) (v : Value) (w : World) (hR : Rr w b s t x v) (hs : s.length ≤ 1099511627776) (hq : hd isq (t.dropWhile wht) = false) :
    Calls Tryz.prog 100 #[.pointer (some ⟨b, 0, none⟩)] w fun e w' => e = .returned (.string ⟨((t.dropWhile wht).takeWhile vch).toArray⟩) ∧ Rr w' b s ((t.dropWhile wht).dropWhile vch) x v ∧ w.grownBy w' (some b) := by
  obtain ⟨t1, ht1⟩ : ∃ t1, t1 = t.dropWhile wht := ⟨_, rfl⟩
  have P1 := Lib.hid (pass_r _ wht do_white b s t x v w hR hs)
  have HH := Lib.hid (fun W h => here_r _ isq do_v1 b s t1 x v W h hs)
  have P2 := Lib.hid (fun W h => pass_r _ vch do_v3 b s t1 x v W h hs)
  rw [← ht1] at hq P1 ⊢
  rw [hq] at HH
  clear ht1 hq hR
  go_enter Tryz.func100, Tryz.ntmps100
  go_wp2_with (first | (go_at_call 64; (with_reducible refine P1.out.mono ?_); clear P1; rintro e w1 ⟨rfl, hR1, hg1⟩) | (go_at_call 79; (with_reducible refine (HH.out _ hR1).mono ?_); rintro e w2 ⟨rfl, hq2⟩; have hR2 := hR1.of_bl hq2.bl; have hg2 := gb_trans hg1 (gb_qt (b := some b) hq2)) | (go_at_call 64; (with_reducible refine (P2.out _ hR2).mono ?_); rintro e w3 ⟨rfl, hR3, hg3⟩))
  go_ret
  exact ⟨rfl, hR3, gb_trans hg2 hg3⟩

set_option maxHeartbeats 2000000 in
theorem value_quoted (b : Nat) (s t r u x : List UInt8) (q z : UInt8) (v : Value) (w : World) (hR : Rr w b s t x v) (hs : s.length ≤ 1099511627776) (ht : t.dropWhile wht = q :: r) (hq : hd isq (q :: r) = true) (hu : r.dropWhile (· != q) = z :: u) :
    Calls Tryz.prog 100 #[.pointer (some ⟨b, 0, none⟩)] w fun e w' => e = .returned (.string ⟨(r.takeWhile (· != q)).toArray⟩) ∧ Rr w' b s u x v ∧ w.grownBy w' (some b) := by
  have P1 := Lib.hid (pass_r _ wht do_white b s t x v w hR hs)
  have HH := Lib.hid (fun W h => here_r _ isq do_v1 b s (q :: r) x v W h hs)
  have N1 := Lib.hid (fun W h => need_r b s q r x v W h hs)
  have P2 := Lib.hid (fun (n : Nat) W h1 (hne : n ≠ b) h => pass_r0 _ _ _ _ (do_v2 q n) b s r x v W h1 (fun W u h => by rw [World.cell?_setCell_other _ _ _ _ (by simp [])]; exact h) h hs)
  have N2 := Lib.hid (fun W h => need_r b s z u x v W h hs)
  rw [ht] at P1
  rw [hq] at HH
  rw [hu] at P2
  obtain ⟨a, ha⟩ : ∃ a, a = r.takeWhile (· != q) := ⟨_, rfl⟩
  rw [← ha] at P2 ⊢
  clear ht hq hR hu ha
  go_enter Tryz.func100, Tryz.ntmps100
  go_wp2_with (first | (go_at_call 64; (with_reducible refine P1.out.mono ?_); clear P1; rintro e w1 ⟨rfl, hR1, hg1⟩) | (go_at_call 79; (with_reducible refine (HH.out _ hR1).mono ?_); rintro e w2 ⟨rfl, hq2⟩; have hR2 := hR1.of_bl hq2.bl; have hg2 := gb_trans hg1 (gb_qt (b := some b) hq2)) | (go_at_call 97; (with_reducible refine (N1.out _ hR2).mono ?_); clear N1; rintro e w3 ⟨rfl, hR3, hg3⟩; have hg3' := gb_trans hg2 hg3; have hP := Lib.hid (P2.out w3.heap.size (w3.alloc (.cells #[.int .u8 (q.toNat : Int)] 5)) (by simp) (Nat.ne_of_gt hR3.rk.lt) (hR3.of_bl ((Bl.refl _).alloc _)))) | (go_at_call 64; (with_reducible refine hP.out.mono ?_); rintro e w4 ⟨rfl, hR4, hg4⟩; have hg4' := gb_trans (gb_trans hg3' (alloc_gb w3 _ (some b))) hg4) | (go_at_call 97; (with_reducible refine (N2.out _ hR4).mono ?_); rintro e w5 ⟨rfl, hR5, hg5⟩))
  go_ret
  exact ⟨rfl, hR5, gb_trans hg4' hg5⟩
set_option maxHeartbeats 2000000 in
theorem value_open (b : Nat) (s t r x : List UInt8) (q : UInt8) (v : Value) (w : World) (hR : Rr w b s t x v) (hs : s.length ≤ 1099511627776) (ht : t.dropWhile wht = q :: r) (hq : hd isq (q :: r) = true) (hu : r.dropWhile (· != q) = []) :
    Calls Tryz.prog 100 #[.pointer (some ⟨b, 0, none⟩)] w fun e w' => e = .panicked OPN ∧ (∃ t', Rr w' b s t' x v) ∧ w.grownBy w' (some b) := by
  have P1 := Lib.hid (pass_r _ wht do_white b s t x v w hR hs)
  have HH := Lib.hid (fun W h => here_r _ isq do_v1 b s (q :: r) x v W h hs)
  have N1 := Lib.hid (fun W h => need_r b s q r x v W h hs)
  have P2 := Lib.hid (fun (n : Nat) W h1 (hne : n ≠ b) h => pass_r0 _ _ _ _ (do_v2 q n) b s r x v W h1 (fun W u h => by rw [World.cell?_setCell_other _ _ _ _ (by simp [])]; exact h) h hs)
  have N2 := Lib.hid (fun W h => need_end b s x v W h)
  rw [ht] at P1
  rw [hq] at HH
  rw [hu] at P2
  obtain ⟨a, ha⟩ : ∃ a, a = r.takeWhile (· != q) := ⟨_, rfl⟩
  rw [← ha] at P2
  clear ht hq hR hu ha
  go_enter Tryz.func100, Tryz.ntmps100
  go_wp2_with (first | (go_at_call 64; (with_reducible refine P1.out.mono ?_); clear P1; rintro e w1 ⟨rfl, hR1, hg1⟩) | (go_at_call 79; (with_reducible refine (HH.out _ hR1).mono ?_); rintro e w2 ⟨rfl, hq2⟩; have hR2 := hR1.of_bl hq2.bl; have hg2 := gb_trans hg1 (gb_qt (b := some b) hq2)) | (go_at_call 97; (with_reducible refine (N1.out _ hR2).mono ?_); clear N1; rintro e w3 ⟨rfl, hR3, hg3⟩; have hg3' := gb_trans hg2 hg3; have hP := Lib.hid (P2.out w3.heap.size (w3.alloc (.cells #[.int .u8 (q.toNat : Int)] 5)) (by simp) (Nat.ne_of_gt hR3.rk.lt) (hR3.of_bl ((Bl.refl _).alloc _)))) | (go_at_call 64; (with_reducible refine hP.out.mono ?_); rintro e w4 ⟨rfl, hR4, hg4⟩; have hg4' := gb_trans (gb_trans hg3' (alloc_gb w3 _ (some b))) hg4) | (go_at_call 97; (with_reducible refine (N2.out _ hR4).mono ?_); rintro e w5 ⟨rfl, hq5⟩))
  exact ⟨rfl, rfl, ⟨_, hR4.of_bl hq5.bl⟩, gb_trans hg4' (gb_qt hq5)⟩

theorem value_yes (b : Nat) (s t a u x : List UInt8) (v : Value) (w : World) (hR : Rr w b s t x v) (hs : s.length ≤ 1099511627776) (hv : valOf t = some (a, u)) :
    Calls Tryz.prog 100 #[.pointer (some ⟨b, 0, none⟩)] w fun e w' => e = .returned (.string ⟨a.toArray⟩) ∧ Rr w' b s u x v ∧ w.grownBy w' (some b) := by
  have hp := value_plain b s t x v w hR hs
  unfold valOf at hv
  split at hv
  · rename_i e
    simp only [Option.some.injEq, Prod.mk.injEq] at hv; obtain ⟨rfl, rfl⟩ := hv
    rw [e] at hp
    exact hp rfl
  · rename_i q r e
    split at hv
    · rename_i hq
      have hq' := (hd_isq q r).2 hq
      split at hv
      · cases hv
      · rename_i z u' e2
        simp only [Option.some.injEq, Prod.mk.injEq] at hv; obtain ⟨rfl, rfl⟩ := hv
        exact value_quoted b s t r u' x q z v w hR hs e hq' e2
    · rename_i hq
      have hq' : hd isq (q :: r) = false := by
        rw [← hd_isq q r] at hq; simpa using hq
      simp only [Option.some.injEq, Prod.mk.injEq] at hv; obtain ⟨rfl, rfl⟩ := hv
      rw [e] at hp
      exact hp hq'
theorem value_no (b : Nat) (s t x : List UInt8) (v : Value) (w : World) (hR : Rr w b s t x v) (hs : s.length ≤ 1099511627776) (hv : valOf t = none) :
    Calls Tryz.prog 100 #[.pointer (some ⟨b, 0, none⟩)] w fun e w' => e = .panicked OPN ∧ (∃ t', Rr w' b s t' x v) ∧ w.grownBy w' (some b) := by
  unfold valOf at hv
  split at hv
  · cases hv
  · rename_i q r e
    split at hv
    · rename_i hq
      have hq' := (hd_isq q r).2 hq
      split at hv
      · rename_i e2
        exact value_open b s t r x q v w hR hs e hq' e2
      · cases hv
    · cases hv
end Go.Proofs.YtoaecehkmoehjaaGreatDoor

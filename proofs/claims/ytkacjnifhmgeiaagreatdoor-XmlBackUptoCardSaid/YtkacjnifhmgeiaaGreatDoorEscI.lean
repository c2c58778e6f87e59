/- sign and Taken of the program. -/
import Derived.Test.YtkacjnifhmgeiaaGreatDoorEscH
namespace Go.Proofs.YtkacjnifhmgeiaaGreatDoor
open Go.RowKit

set_option maxRecDepth 100000 in
set_option maxHeartbeats 2000000 in
theorem sign_c (t : List UInt8) (hl : t.length ≤ 4611686018427387904) (w : World) (hE : ES w) :
    Calls Tryz.prog 74 #[.string ⟨t.toArray⟩] w fun e w' => e = .returned (.tuple #[.string ⟨(sgn t).1.toArray⟩, .int .i64 (sgn t).2.1, .bool (sgn t).2.2]) ∧ Bl w w' := by
  have NC := Lib.hid (fun W => named_c t W)
  have UC := Lib.hid (fun W hW => numbered_c t hl W hW)
  by_cases h0 : 0 < (nmd t).2
  · have HS := Lib.hid (show sgn t = ((nmd t).1, (nmd t).2, true) by unfold sgn; rw [if_pos h0])
    have h0' : (0 : Int) < ((nmd t).2 : Int) := by omega
    go_enter Tryz.func74, Tryz.ntmps74
    go_wp2_with (go_at_call 89; (with_reducible refine (NC.out _).mono ?_); rintro e w' ⟨rfl, hb⟩)
    go_ret3
    exact ⟨by rw [HS.out]; rfl, hb⟩
  have h0' : ¬ (0 : Int) < ((nmd t).2 : Int) := by omega
  cases h1 : (((nbr t).2 : Int) == 0)
  · have h1' : ¬ (nbr t).2 = 0 := by have := ne_of_beq_false h1; omega
    cases h2 : scl (nbr t).1
    · have HS := Lib.hid (show sgn t = ([239, 191, 189], (nbr t).2, false) by unfold sgn; rw [if_neg h0, if_neg h1', h2]; rfl)
      go_enter Tryz.func74, Tryz.ntmps74
      go_wp2_with (first | (go_at_call 89; (with_reducible refine (NC.out _).mono ?_); rintro e w' ⟨rfl, hb⟩; have hE' := hE.of_bl hb) | (go_at_call 90; (with_reducible refine (UC.out _ hE').mono ?_); rintro e w'' ⟨rfl, hb'⟩) | (go_at_call 91; refine (scalar_c _ _).mono ?_; rintro e w3 ⟨rfl, rfl⟩))
      go_ret3
      exact ⟨by rw [HS.out]; rfl, hb.trans hb'⟩
    · have HS := Lib.hid (show sgn t = (rowL (nbr t).1, (nbr t).2, true) by unfold sgn; rw [if_neg h0, if_neg h1', h2]; rfl)
      have hs2 : 0 < (nbr t).1 ∧ (nbr t).1 ≤ 1114111 := by simp [scl] at h2; omega
      obtain ⟨hs3, hs4⟩ := hs2
      go_enter Tryz.func74, Tryz.ntmps74
      go_wp2_with (first | (go_at_call 89; (with_reducible refine (NC.out _).mono ?_); rintro e w' ⟨rfl, hb⟩; have hE' := hE.of_bl hb) | (go_at_call 90; (with_reducible refine (UC.out _ hE').mono ?_); rintro e w'' ⟨rfl, hb'⟩) | (go_at_call 91; refine (scalar_c _ _).mono ?_; rintro e w3 ⟨rfl, rfl⟩) | go_quiet (fail))
      go_ret3
      exact ⟨by rw [HS.out]; rfl, hb.trans hb'⟩
  · have h1' : (nbr t).2 = 0 := by have := eq_of_beq h1; omega
    have HS := Lib.hid (show sgn t = ([38], 0, false) by unfold sgn; rw [if_neg h0, if_pos h1'])
    clear h1'
    go_enter Tryz.func74, Tryz.ntmps74
    go_wp2_with (first | (go_at_call 89; (with_reducible refine (NC.out _).mono ?_); rintro e w' ⟨rfl, hb⟩; have hE' := hE.of_bl hb) | (go_at_call 90; (with_reducible refine (UC.out _ hE').mono ?_); rintro e w'' ⟨rfl, hb'⟩))
    go_ret3
    exact ⟨by rw [HS.out]; rfl, hb.trans hb'⟩

/-- A builder that holds these bytes; new since B. -/
def Bu (B b : Nat) (l : List UInt8) (w : World) : Prop := Lib.IsBuilder 78 5 B b (Lib.byteCells l) w
theorem BuilderAt.of_bl {T e : TypeId} {B b : Nat} {p : Value} {bs : List Value} {w w' : World} (h : Lib.BuilderAt T e B b p bs w) (hb : Bl w w') : Lib.BuilderAt T e B b p bs w' := by
  obtain ⟨hB, v, hk, hown, hne⟩ := h
  have hlt : b < w.heap.size := (Array.getElem?_eq_some_iff.1 hk).1
  refine ⟨hB, v, (Below.block hb b hlt).trans hk, ⟨hown.1, ?_⟩, hne⟩
  rcases hown.2 with h | ⟨g, cap, cur, h1, h2, h3, h4⟩
  · exact Or.inl h
  · exact Or.inr ⟨g, cap, cur, h1, h2, (Below.block hb g (Array.getElem?_eq_some_iff.1 h3).1).trans h3, h4⟩
theorem Bu.of_bl {B b : Nat} {l : List UInt8} {w w' : World} (h : Bu B b l w) (hb : Bl w w') : Bu B b l w' := by
  rcases h with h | h
  · exact Or.inl (BuilderAt.of_bl h hb)
  · exact Or.inr (BuilderAt.of_bl h hb)
theorem wr_c (B b : Nat) (l a : List UInt8) (w : World) (h : Bu B b l w) (hlen : l.length + a.length ≤ 140737488355328) (hBw : B ≤ w.heap.size) :
    Calls Tryz.prog 73 #[.pointer (some ⟨b, 0, none⟩), .string ⟨a.toArray⟩] w fun e w' => e = .returned (.tuple #[.int .i64 a.length, .nilIface]) ∧ Bu B b (l ++ a) w' ∧ Below B w w' := by
  refine (write_c B b (Lib.byteCells l) ⟨a.toArray⟩ w h (by rw [Lib.byteCells_length]; exact hlen) hBw).mono ?_
  rintro e w' ⟨rfl, h1, h2⟩
  exact ⟨rfl, by unfold Bu; rw [Lib.byteCells_append]; exact Or.inr h1, h2⟩
theorem str_c (B b : Nat) (l : List UInt8) (w : World) (h : Bu B b l w) (hBw : B ≤ w.heap.size) :
    Calls Tryz.prog 75 #[.pointer (some ⟨b, 0, none⟩)] w fun e w' => e = .returned (.string ⟨l.toArray⟩) ∧ Below B w w' :=
  Tryz.Builder_String_any B b l w h hBw

def strLen : Value → Nat | .string s => s.size | _ => 0
set_option maxRecDepth 100000 in
set_option maxHeartbeats 4000000 in
theorem taken_c (l : List UInt8) (hl : l.length ≤ 1099511627776) (w : World) (hE : ES w) :
    Calls Tryz.prog 55 #[.string ⟨l.toArray⟩] w fun e w' => e = .returned (.tuple #[.string ⟨(Tk l).1.toArray⟩, .bool (Tk l).2]) ∧ Bl w w' := by
  go_enter Tryz.func55, Tryz.ntmps55
  go_wp2
  go_loopw [0, 5] (fun s0 s5 wr => ∃ (rest out : List UInt8) (al : Bool), s0 = .string ⟨rest.toArray⟩ ∧ s5 = .bool al ∧ Hid (Tk l = (out ++ (Tk rest).1, al && (Tk rest).2)) ∧ rest.length ≤ l.length ∧ Bu w.heap.size w.heap.size out wr ∧ Bl w wr) (fun s0 _ _ => strLen s0)
  case atStart => exact ⟨l, [], true, rfl, rfl, Lib.hid (by simp), Nat.le_refl _, Or.inl ⟨Nat.le_refl _, .slice none 0 0, heap_alloc_last _ _, ⟨rfl, Or.inl ⟨rfl, rfl⟩⟩, by simp [Value.ownBlock]⟩, (Bl.refl _).alloc _⟩
  case round =>
    obtain ⟨rest, out, al, rfl, rfl, HK, hr, hB, hbl⟩ := hrel
    have hol : out.length ≤ 4 * l.length := by
      have h1 := Tk_len l.length l (Nat.le_refl _)
      rw [HK.out] at h1
      simp only [List.length_append] at h1; omega
    have hBs := Below.size hbl
    by_cases hn : rest = []
    · subst hn
      have HS := Lib.hid (fun W h hW => str_c w.heap.size w.heap.size out W h hW)
      go_wp2_with (go_at_call 75; (with_reducible refine (HS.out _ hB hBs).mono ?_); rintro e w' ⟨rfl, hb⟩)
      go_ret2
      exact ⟨by rw [HK.out]; simp [Tk_nil], Below.trans hbl hb⟩
    have hemp : rest.isEmpty = false := by cases rest <;> simp_all
    have hrl : 0 < rest.length := List.length_pos_iff.2 hn
    have CC := Lib.hid (fun W => cut_c rest 38 (by omega) W)
    have hbf := bef_len 38 rest
    have haf := aft_len 38 rest
    by_cases hm : 38 ∈ rest
    · have hK := HK.out
      rw [Tk_cut rest hm, Tk_amp] at hK
      have hs := sgn_len (38 :: aft 38 rest)
      obtain ⟨sg, hsg⟩ : ∃ sg, sg = sgn (38 :: aft 38 rest) := ⟨_, rfl⟩
      have SC := Lib.hid (fun W hW => sign_c (38 :: aft 38 rest) (by simp; omega) W hW)
      rw [← hsg] at hK hs SC
      obtain ⟨t, n, ok⟩ := sg
      simp only [List.length_cons] at hs hK SC
      obtain ⟨hs1, hs2⟩ := hs
      have hlen : rest.length = (bef 38 rest).length + 1 + (aft 38 rest).length := by
        rcases ixb 38 rest with ⟨_, _, h3⟩ | ⟨h, _⟩
        · have := congrArg List.length h3; simp at this; omega
        · exact absurd hm h
      have HM := Lib.hid (decide_eq_true hm)
      have HK2 := Lib.hid hK
      obtain ⟨a, ha⟩ : ∃ a, a = bef 38 rest := ⟨_, rfl⟩
      obtain ⟨c, hc⟩ : ∃ c, c = aft 38 rest := ⟨_, rfl⟩
      rw [HM.out, ← ha, ← hc] at CC
      rw [← hc] at SC HK2 hs2 haf
      rw [← ha] at hbf HK2
      rw [← ha, ← hc] at hlen
      clear hK hsg ha hc HM hm
      go_wp2_with (first | (go_at_call 72; (with_reducible refine (CC.out _).mono ?_); rintro e w1 ⟨rfl, hq⟩; have hbl1 := hbl.trans hq.bl; have hB1 := hB.of_bl hq.bl; have HW := Lib.hid (wr_c w.heap.size w.heap.size out a w1 hB1 (by omega) (Below.size hbl1))) | (go_at_call 73; (with_reducible refine HW.out.mono ?_); rintro e w2 ⟨rfl, hB2, hb2⟩; clear HW; have hbl2 : Bl w w2 := Below.trans hbl1 hb2; have HS := Lib.hid (SC.out w2 (hE.of_bl hbl2))) | (go_at_call 74; refine HS.out.mono ?_; rintro e w3 ⟨rfl, hb3⟩; clear HS; have hbl3 := hbl2.trans hb3; have hB3 := hB2.of_bl hb3; have HW2 := Lib.hid (wr_c w.heap.size w.heap.size (out ++ a) t w3 hB3 (by simp; omega) (Below.size hbl3))) | (go_at_call 73; (with_reducible refine HW2.out.mono ?_); rintro e w4 ⟨rfl, hB4, hb4⟩; clear HW2; have hbl4 : Bl w w4 := Below.trans hbl3 hb4))
      all_goals
        have hmx : (max 0 ((n : Int) - 1)).toNat = n - 1 := by rw [Int.max_def]; split <;> omega
        have hsm : strLen (Value.string ⟨(List.drop (n - 1) c).toArray⟩) < strLen (Value.string ⟨rest.toArray⟩) := by
          simp only [strLen, ByteArray.size, List.size_toArray, List.length_drop]; omega
        rw [hmx]
      · obtain rfl : al = true := by assumption
        exact ⟨⟨List.drop (n - 1) c, out ++ a ++ t, ok, rfl, rfl, Lib.hid (by rw [HK2.out]; simp), by simp; omega, hB4, hbl4⟩, hsm⟩
      · obtain rfl : al = false := by
          have h : ¬ al = true := by assumption
          simpa using h
        exact ⟨⟨List.drop (n - 1) c, out ++ a ++ t, false, rfl, rfl, Lib.hid (by rw [HK2.out]; simp), by simp; omega, hB4, hbl4⟩, hsm⟩
    · have HN := Lib.hid (Tk_none rest hm)
      have HM := Lib.hid (decide_eq_false hm)
      have hbef : bef 38 rest = rest := by
        rcases ixb 38 rest with ⟨h, _⟩ | ⟨_, _, h, _⟩
        · exact absurd h hm
        · exact h
      rw [HM.out, hbef] at CC
      clear hbef hm hbf haf
      go_wp2_with (first | (go_at_call 72; (with_reducible refine (CC.out _).mono ?_); rintro e w1 ⟨rfl, hq⟩; have hbl1 := hbl.trans hq.bl; have hB1 := hB.of_bl hq.bl; have HW := Lib.hid (wr_c w.heap.size w.heap.size out rest w1 hB1 (by omega) (Below.size hbl1))) | (go_at_call 73; (with_reducible refine HW.out.mono ?_); rintro e w2 ⟨rfl, hB2, hb2⟩; clear HW; have hbl2 : Bl w w2 := Below.trans hbl1 hb2; have HS := Lib.hid (str_c w.heap.size w.heap.size (out ++ rest) w2 hB2 (Below.size hbl2))) | (go_at_call 75; (with_reducible refine HS.out.mono ?_); rintro e w3 ⟨rfl, hb3⟩))
      go_ret2
      exact ⟨by rw [HK.out, HN.out]; simp, Below.trans hbl2 hb3⟩
end Go.Proofs.YtkacjnifhmgeiaaGreatDoor

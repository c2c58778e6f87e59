/- sign and Taken of the program. · Signs that are taken: the reference. · Tokens: the reader's small steps. -/
import Derived.Test.YthnpljkekhieiaaGreatDoorGrpD
import Derived.Test.YthnpljkekhieiaaGreatDoorTokN
namespace Go.Proofs.YthnpljkekhieiaaGreatDoor
open Go.RowKit

set_option maxRecDepth 100000 in
set_option maxHeartbeats 2000000 in
theorem sign_c (t : List UInt8) (hl : t.length ≤ 4611686018427387904) (w : World) (hE : ES w) :
    Calls Tryz.prog 151 #[.string ⟨t.toArray⟩] w fun e w' => e = .returned (.tuple #[.string ⟨(sgn t).1.toArray⟩, .int .i64 (sgn t).2.1, .bool (sgn t).2.2]) ∧ Bl w w' := by
  have NC := Lib.hid (fun W => named_c t W)
  have UC := Lib.hid (fun W hW => numbered_c t hl W hW)
  by_cases h0 : 0 < (nmd t).2
  · have HS := Lib.hid (show sgn t = ((nmd t).1, (nmd t).2, true) by unfold sgn; rw [if_pos h0])
    have h0' : (0 : Int) < ((nmd t).2 : Int) := by omega
    go_enter Tryz.func151, Tryz.ntmps151
    go_wp2_with (go_at_call 169; (with_reducible refine (NC.out _).mono ?_); rintro e w' ⟨rfl, hb⟩)
    go_ret3
    exact ⟨by rw [HS.out]; rfl, hb⟩
  have h0' : ¬ (0 : Int) < ((nmd t).2 : Int) := by omega
  cases h1 : (((nbr t).2 : Int) == 0)
  · have h1' : ¬ (nbr t).2 = 0 := by have := ne_of_beq_false h1; omega
    cases h2 : scl (nbr t).1
    · have HS := Lib.hid (show sgn t = ([239, 191, 189], (nbr t).2, false) by unfold sgn; rw [if_neg h0, if_neg h1', h2]; rfl)
      go_enter Tryz.func151, Tryz.ntmps151
      go_wp2_with (first | (go_at_call 169; (with_reducible refine (NC.out _).mono ?_); rintro e w' ⟨rfl, hb⟩; have hE' := hE.of_bl hb) | (go_at_call 170; (with_reducible refine (UC.out _ hE').mono ?_); rintro e w'' ⟨rfl, hb'⟩) | (go_at_call 171; refine (scalar_c _ _).mono ?_; rintro e w3 ⟨rfl, rfl⟩))
      go_ret3
      exact ⟨by rw [HS.out]; rfl, hb.trans hb'⟩
    · have HS := Lib.hid (show sgn t = (rowL (nbr t).1, (nbr t).2, true) by unfold sgn; rw [if_neg h0, if_neg h1', h2]; rfl)
      have hs2 : 0 < (nbr t).1 ∧ (nbr t).1 ≤ 1114111 := by simp [scl] at h2; omega
      obtain ⟨hs3, hs4⟩ := hs2
      go_enter Tryz.func151, Tryz.ntmps151
      go_wp2_with (first | (go_at_call 169; (with_reducible refine (NC.out _).mono ?_); rintro e w' ⟨rfl, hb⟩; have hE' := hE.of_bl hb) | (go_at_call 170; (with_reducible refine (UC.out _ hE').mono ?_); rintro e w'' ⟨rfl, hb'⟩) | (go_at_call 171; refine (scalar_c _ _).mono ?_; rintro e w3 ⟨rfl, rfl⟩) | go_quiet (fail))
      go_ret3
      exact ⟨by rw [HS.out]; rfl, hb.trans hb'⟩
  · have h1' : (nbr t).2 = 0 := by have := eq_of_beq h1; omega
    have HS := Lib.hid (show sgn t = ([38], 0, false) by unfold sgn; rw [if_neg h0, if_pos h1'])
    clear h1'
    go_enter Tryz.func151, Tryz.ntmps151
    go_wp2_with (first | (go_at_call 169; (with_reducible refine (NC.out _).mono ?_); rintro e w' ⟨rfl, hb⟩; have hE' := hE.of_bl hb) | (go_at_call 170; (with_reducible refine (UC.out _ hE').mono ?_); rintro e w'' ⟨rfl, hb'⟩))
    go_ret3
    exact ⟨by rw [HS.out]; rfl, hb.trans hb'⟩

/-- A builder that holds these bytes; new since B. -/
def Bu (B b : Nat) (l : List UInt8) (w : World) : Prop := Lib.IsBuilder 124 5 B b (Lib.byteCells l) w
theorem BuilderAt.of_bl {T e : TypeId} {B b : Nat} {p : Value} {bs : List Value} {w w' : World} (h : Lib.BuilderAt T e B b p bs w) (hb : Bl w w') : Lib.BuilderAt T e B b p bs w' := by
  obtain ⟨hB, v, hk, hown, hne⟩ := h
  have hlt : b < w.heap.size := (Array.getElem?_eq_some_iff.1 hk).1
  refine ⟨hB, v, (Below.block hb b hlt).trans hk, ⟨hown.1, ?_⟩, hne⟩
  rcases hown.2 with h | ⟨g, cap, cur, h1, h2, h3, h4⟩
  · exact Or.inl h
  · exact Or.inr ⟨g, cap, cur, h1, h2, (Below.block hb g (Array.getElem?_eq_some_iff.1 h3).1).trans h3, h4⟩
theorem Bu.of_bl {B b : Nat} {l : List UInt8} {w w' : World} (h : Bu B b l w) (hb : Bl w w') : Bu B b l w' := by
  rcases h with h | h
  · exact Or.inl (BuilderAt.of_bl h hb)
  · exact Or.inr (BuilderAt.of_bl h hb)
theorem wr_c (B b : Nat) (l a : List UInt8) (w : World) (h : Bu B b l w) (hlen : l.length + a.length ≤ 140737488355328) (hBw : B ≤ w.heap.size) :
    Calls Tryz.prog 100 #[.pointer (some ⟨b, 0, none⟩), .string ⟨a.toArray⟩] w fun e w' => e = .returned (.tuple #[.int .i64 a.length, .nilIface]) ∧ Bu B b (l ++ a) w' ∧ Below B w w' := by
  refine (write_c B b (Lib.byteCells l) ⟨a.toArray⟩ w h (by rw [Lib.byteCells_length]; exact hlen) hBw).mono ?_
  rintro e w' ⟨rfl, h1, h2⟩
  exact ⟨rfl, by unfold Bu; rw [Lib.byteCells_append]; exact Or.inr h1, h2⟩
theorem str_c (B b : Nat) (l : List UInt8) (w : World) (h : Bu B b l w) (hBw : B ≤ w.heap.size) :
    Calls Tryz.prog 103 #[.pointer (some ⟨b, 0, none⟩)] w fun e w' => e = .returned (.string ⟨l.toArray⟩) ∧ Below B w w' :=
  Tryz.Builder_String_any B b l w h hBw

def strLen : Value → Nat | .string s => s.size | _ => 0
set_option maxRecDepth 100000 in
set_option maxHeartbeats 4000000 in
theorem taken_c (l : List UInt8) (hl : l.length ≤ 1099511627776) (w : World) (hE : ES w) :
    Calls Tryz.prog 128 #[.string ⟨l.toArray⟩] w fun e w' => e = .returned (.tuple #[.string ⟨(Tk l).1.toArray⟩, .bool (Tk l).2]) ∧ Bl w w' := by
  go_enter Tryz.func128, Tryz.ntmps128
  go_wp2
  go_loopw [0, 5] (fun s0 s5 wr => ∃ (rest out : List UInt8) (al : Bool), s0 = .string ⟨rest.toArray⟩ ∧ s5 = .bool al ∧ Hid (Tk l = (out ++ (Tk rest).1, al && (Tk rest).2)) ∧ rest.length ≤ l.length ∧ Bu w.heap.size w.heap.size out wr ∧ Bl w wr) (fun s0 _ _ => strLen s0)
  case atStart => exact ⟨l, [], true, rfl, rfl, Lib.hid (by simp), Nat.le_refl _, Or.inl ⟨Nat.le_refl _, .slice none 0 0, heap_alloc_last _ _, ⟨rfl, Or.inl ⟨rfl, rfl⟩⟩, by simp [Value.ownBlock]⟩, (Bl.refl _).alloc _⟩
  case round =>
    obtain ⟨rest, out, al, rfl, rfl, HK, hr, hB, hbl⟩ := hrel
    have hol : out.length ≤ 4 * l.length := by
      have h1 := Tk_len l.length l (Nat.le_refl _)
      rw [HK.out] at h1
      simp only [List.length_append] at h1; omega
    have hBs := Below.size hbl
    by_cases hn : rest = []
    · subst hn
      have HS := Lib.hid (fun W h hW => str_c w.heap.size w.heap.size out W h hW)
      go_wp2_with (go_at_call 103; (with_reducible refine (HS.out _ hB hBs).mono ?_); rintro e w' ⟨rfl, hb⟩)
      go_ret2
      exact ⟨by rw [HK.out]; simp [Tk_nil], Below.trans hbl hb⟩
    have hemp : rest.isEmpty = false := by cases rest <;> simp_all
    have hrl : 0 < rest.length := List.length_pos_iff.2 hn
    have CC := Lib.hid (fun W => cut_c rest 38 (by omega) W)
    have hbf := bef_len 38 rest
    have haf := aft_len 38 rest
    by_cases hm : 38 ∈ rest
    · have hK := HK.out
      rw [Tk_cut rest hm, Tk_amp] at hK
      have hs := sgn_len (38 :: aft 38 rest)
      obtain ⟨sg, hsg⟩ : ∃ sg, sg = sgn (38 :: aft 38 rest) := ⟨_, rfl⟩
      have SC := Lib.hid (fun W hW => sign_c (38 :: aft 38 rest) (by simp; omega) W hW)
      rw [← hsg] at hK hs SC
      obtain ⟨t, n, ok⟩ := sg
      simp only [List.length_cons] at hs hK SC
      obtain ⟨hs1, hs2⟩ := hs
      have hlen : rest.length = (bef 38 rest).length + 1 + (aft 38 rest).length := by
        rcases ixb 38 rest with ⟨_, _, h3⟩ | ⟨h, _⟩
        · have := congrArg List.length h3; simp at this; omega
        · exact absurd hm h
      have HM := Lib.hid (decide_eq_true hm)
      have HK2 := Lib.hid hK
      obtain ⟨a, ha⟩ : ∃ a, a = bef 38 rest := ⟨_, rfl⟩
      obtain ⟨c, hc⟩ : ∃ c, c = aft 38 rest := ⟨_, rfl⟩
      rw [HM.out, ← ha, ← hc] at CC
      rw [← hc] at SC HK2 hs2 haf
      rw [← ha] at hbf HK2
      rw [← ha, ← hc] at hlen
      clear hK hsg ha hc HM hm
      go_wp2_with (first | (go_at_call 150; (with_reducible refine (CC.out _).mono ?_); rintro e w1 ⟨rfl, hq⟩; have hbl1 := hbl.trans hq.bl; have hB1 := hB.of_bl hq.bl; have HW := Lib.hid (wr_c w.heap.size w.heap.size out a w1 hB1 (by omega) (Below.size hbl1))) | (go_at_call 100; (with_reducible refine HW.out.mono ?_); rintro e w2 ⟨rfl, hB2, hb2⟩; clear HW; have hbl2 : Bl w w2 := Below.trans hbl1 hb2; have HS := Lib.hid (SC.out w2 (hE.of_bl hbl2))) | (go_at_call 151; refine HS.out.mono ?_; rintro e w3 ⟨rfl, hb3⟩; clear HS; have hbl3 := hbl2.trans hb3; have hB3 := hB2.of_bl hb3; have HW2 := Lib.hid (wr_c w.heap.size w.heap.size (out ++ a) t w3 hB3 (by simp; omega) (Below.size hbl3))) | (go_at_call 100; (with_reducible refine HW2.out.mono ?_); rintro e w4 ⟨rfl, hB4, hb4⟩; clear HW2; have hbl4 : Bl w w4 := Below.trans hbl3 hb4))
      all_goals
        have hmx : (max 0 ((n : Int) - 1)).toNat = n - 1 := by rw [Int.max_def]; split <;> omega
        have hsm : strLen (Value.string ⟨(List.drop (n - 1) c).toArray⟩) < strLen (Value.string ⟨rest.toArray⟩) := by
          simp only [strLen, ByteArray.size, List.size_toArray, List.length_drop]; omega
        rw [hmx]
      · obtain rfl : al = true := by assumption
        exact ⟨⟨List.drop (n - 1) c, out ++ a ++ t, ok, rfl, rfl, Lib.hid (by rw [HK2.out]; simp), by simp; omega, hB4, hbl4⟩, hsm⟩
      · obtain rfl : al = false := by
          have h : ¬ al = true := by assumption
          simpa using h
        exact ⟨⟨List.drop (n - 1) c, out ++ a ++ t, false, rfl, rfl, Lib.hid (by rw [HK2.out]; simp), by simp; omega, hB4, hbl4⟩, hsm⟩
    · have HN := Lib.hid (Tk_none rest hm)
      have HM := Lib.hid (decide_eq_false hm)
      have hbef : bef 38 rest = rest := by
        rcases ixb 38 rest with ⟨h, _⟩ | ⟨_, _, h, _⟩
        · exact absurd h hm
        · exact h
      rw [HM.out, hbef] at CC
      clear hbef hm hbf haf
      go_wp2_with (first | (go_at_call 150; (with_reducible refine (CC.out _).mono ?_); rintro e w1 ⟨rfl, hq⟩; have hbl1 := hbl.trans hq.bl; have hB1 := hB.of_bl hq.bl; have HW := Lib.hid (wr_c w.heap.size w.heap.size out rest w1 hB1 (by omega) (Below.size hbl1))) | (go_at_call 100; (with_reducible refine HW.out.mono ?_); rintro e w2 ⟨rfl, hB2, hb2⟩; clear HW; have hbl2 : Bl w w2 := Below.trans hbl1 hb2; have HS := Lib.hid (str_c w.heap.size w.heap.size (out ++ rest) w2 hB2 (Below.size hbl2))) | (go_at_call 103; (with_reducible refine HS.out.mono ?_); rintro e w3 ⟨rfl, hb3⟩))
      go_ret2
      exact ⟨by rw [HK.out, HN.out]; simp, Below.trans hbl2 hb3⟩
end Go.Proofs.YthnpljkekhieiaaGreatDoor

namespace Go.Proofs.YthnpljkekhieiaaGreatDoor
open Go.RowKit

end Go.Proofs.YthnpljkekhieiaaGreatDoor

namespace Go.Proofs.YthnpljkekhieiaaGreatDoor
open Go.RowKit

def hd (p : UInt8 → Bool) : List UInt8 → Bool
  | [] => false
  | c :: _ => p c
theorem hd_drop (p : UInt8 → Bool) (s : List UInt8) (k : Nat) (h : k < s.length) : hd p (s.drop k) = p s[k] := by rw [List.drop_eq_getElem_cons h]; rfl
theorem hd_end (p : UInt8 → Bool) (s : List UInt8) (k : Nat) (h : s.length ≤ k) : hd p (s.drop k) = false := by rw [List.drop_eq_nil_of_le h]; rfl


/-- A closure that tells of a byte whether it is of a kind, in each world of a class. -/
structure Do (N : Nat) (cap : Array Value) (p : UInt8 → Bool) (I : World → Prop) : Prop where
  cf : ∀ (args : Array Value) (W : World), Sem.run Tryz.prog (callFunc N args) W = .ok (.enter N args) W
  go : ∀ (c : UInt8) W, I W → Calls Tryz.prog N (#[.int .u8 (c.toNat : Int)] ++ cap) W fun e w' => e = .returned (.bool (p c)) ∧ Qt W w'
  qt : ∀ W W', I W → Qt W W' → I W'

theorem here_c (N : Nat) (cap : Array Value) (p : UInt8 → Bool) (I : World → Prop) (hD : Do N cap p I) (b k : Nat) (s x : List UInt8) (v : Value) (w : World) (hI : I w) (hR : Rk w b s k x v) (_hs : s.length ≤ 1099511627776) :
    Calls Tryz.prog 160 #[.pointer (some ⟨b, 0, none⟩), .func (.func N) #[] cap] w fun e w' => e = .returned (.bool (hd p (s.drop k))) ∧ Qt w w' := by
  obtain ⟨c0, c1, c2, c3, f0, f1, f2, f3⟩ := hR.cells
  have hcf := hD.cf
  have HD := Lib.hid (fun c W h => hD.go c W (hD.qt w W hI h))
  clear hD hR
  by_cases hlt : k < s.length
  · have hlt' : (k : Int) < (s.length : Int) := by omega
    have H1 := Lib.hid (hd_drop p s k hlt)
    go_enter Tryz.func160, Tryz.ntmps160
    go_wp2_with (go_quiet (first | (refine quiet_qt (HD.out s[k] _ ?_); exact ⟨_, rfl⟩)))
    go_ret
    exact ⟨by rw [H1.out]; rfl, (Qt.refl _).drewN _⟩
  · have hlt' : decide ((k : Int) < (s.length : Int)) = false := by simp; omega
    have H1 := Lib.hid (hd_end p s k (by omega))
    go_enter Tryz.func160, Tryz.ntmps160
    go_wp2_with (go_quiet (fail))
    go_ret
    exact ⟨by rw [H1.out]; rfl, (Qt.refl _).drewN _⟩

theorem tw_take {α : Type} (p : α → Bool) (l : List α) : l.take (l.takeWhile p).length = l.takeWhile p := (List.prefix_iff_eq_take.1 (List.takeWhile_prefix p)).symm
theorem tw_drop {α : Type} (p : α → Bool) (l : List α) : l.drop (l.takeWhile p).length = l.dropWhile p := by
  induction l with
  | nil => rfl
  | cons a l ih => simp only [List.takeWhile_cons, List.dropWhile_cons]; split <;> simp [ih]
theorem hd_in (p : UInt8 → Bool) (s : List UInt8) (k j : Nat) (h : j < ((s.drop k).takeWhile p).length) : hd p (s.drop (k + j)) = true ∧ k + j < s.length := by
  have h1 := tw_take p (s.drop k)
  have h2 : ((s.drop k).takeWhile p).length ≤ (s.drop k).length := (List.takeWhile_prefix p).length_le
  rw [List.length_drop] at h2
  have hlt : k + j < s.length := by omega
  refine ⟨?_, hlt⟩
  rw [hd_drop p s (k + j) hlt]
  have h3 : ((s.drop k).takeWhile p)[j] = s[k + j] := by
    have : ((s.drop k).take ((s.drop k).takeWhile p).length)[j]'(by rw [h1]; exact h) = s[k + j] := by simp
    rw [← this]; congr 1; exact h1.symm
  rw [← h3]; exact mem_tw (List.getElem_mem h)
theorem hd_out (p : UInt8 → Bool) (s : List UInt8) (k : Nat) : hd p (s.drop (k + ((s.drop k).takeWhile p).length)) = false := by
  rw [← List.drop_drop, tw_drop]
  induction s.drop k with
  | nil => rfl
  | cons a l ih =>
    rw [List.dropWhile_cons]
    cases h : p a
    · simp [hd, h]
    · simpa using ih

set_option maxHeartbeats 1000000 in
theorem pass_c (N : Nat) (cap : Array Value) (p : UInt8 → Bool) (I : World → Prop) (hD : Do N cap p I) (b k : Nat) (s x : List UInt8) (v : Value) (w : World) (hI : I w) (hI2 : ∀ W u, I W → I (W.setCell ⟨b, 1, none⟩ u)) (hR : Rk w b s k x v) (hk : k ≤ s.length) (hs : s.length ≤ 1099511627776) :
    Calls Tryz.prog 145 #[.pointer (some ⟨b, 0, none⟩), .func (.func N) #[] cap] w fun e w' => e = .returned (.string ⟨((s.drop k).takeWhile p).toArray⟩) ∧
      Rk w' b s (k + ((s.drop k).takeWhile p).length) x v ∧ w.grownBy w' (some b) ∧ I w' := by
  obtain ⟨c0, c1, c2, c3, f0, f1, f2, f3⟩ := hR.cells
  have HH := Lib.hid (fun j W h1 h2 => here_c N cap p I hD b j s x v W h1 h2 hs)
  have HIN := Lib.hid (hd_in p s k)
  have HOUT := Lib.hid (hd_out p s k)
  have HT := Lib.hid (tw_take p (s.drop k))
  have hle : k + ((s.drop k).takeWhile p).length ≤ s.length := by
    have h2 : ((s.drop k).takeWhile p).length ≤ (s.drop k).length := (List.takeWhile_prefix p).length_le
    rw [List.length_drop] at h2; omega
  have HQ := Lib.hid hD.qt
  have HI2 := Lib.hid hI2
  obtain ⟨t, ht⟩ : ∃ t, t = (s.drop k).takeWhile p := ⟨_, rfl⟩
  rw [← ht] at HIN HOUT HT hle ⊢
  clear ht hD hI2
  go_enter Tryz.func145, Tryz.ntmps145
  go_wp2
  clear c0 c1 c2 c3 f0 f1 f2 f3
  go_loopw [] (fun wr => ∃ j : Nat, j ≤ t.length ∧ Rk wr b s (k + j) x v ∧ w.grownBy wr (some b) ∧ I wr) (fun wr => s.length - atOf b wr)
  case atStart => exact ⟨0, Nat.zero_le _, hR, gb_refl _ _, hI⟩
  case round =>
    obtain ⟨j, hj, hRr, hg, hIr⟩ := hrel
    by_cases hlt : j < t.length
    · obtain ⟨h1, h2⟩ := HIN.out j hlt
      have h2' : (k : Int) + (j : Int) < (s.length : Int) := by omega
      go_wp2_with (go_at_call 160; (with_reducible refine (HH.out (k + j) _ hIr hRr).mono ?_); rintro e w1 ⟨rfl, hq⟩; have hR1 := hRr.of_bl hq.bl; have hI1 := HQ.out _ _ hIr hq; have hg1 := gb_trans hg (gb_qt (b := some b) hq); obtain ⟨c0, c1, c2, c3, f0, f1, f2, f3⟩ := hR1.cells)
      go_roundw
      case rel => exact ⟨j + 1, by omega, hR1.seti (by omega), gb_set hg1 _ _, HI2.out _ _ hI1⟩
      case measure =>
        have hz := (hR1.seti (n := (k : Int) + (j : Int) + 1) (j := k + j + 1) (by omega)).at_eq
        rw [hRr.at_eq, hz]; omega
    · obtain rfl : j = t.length := by omega
      have h1 := HOUT.out
      go_wp2_with (first | (go_at_call 160; (with_reducible refine (HH.out (k + t.length) _ hIr hRr).mono ?_); rintro e w1 ⟨rfl, hq⟩; have hR1 := hRr.of_bl hq.bl; have hI1 := HQ.out _ _ hIr hq; have hg1 := gb_trans hg (gb_qt (b := some b) hq); obtain ⟨c0, c1, c2, c3, f0, f1, f2, f3⟩ := hR1.cells) | go_quiet (fail))
      go_ret
      refine ⟨?_, hR1.of_bl ((Bl.refl _).drewN _), gb_drewN hg1 _, HQ.out _ _ hI1 ((Qt.refl _).drewN _)⟩
      have e : List.take (k + t.length - k) (List.drop k s) = t := by rw [Nat.add_sub_cancel_left]; exact HT.out
      show Ending.returned (.string ⟨(List.take (k + t.length - k) (List.drop k s)).toArray⟩) = _
      rw [e]
end Go.Proofs.YthnpljkekhieiaaGreatDoor

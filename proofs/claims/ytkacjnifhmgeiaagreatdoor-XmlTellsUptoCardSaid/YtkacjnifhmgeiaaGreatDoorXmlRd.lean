/- Documents, the reference: CheckAttrs by what a title is; upTo; addText. -/
import Derived.Test.YtkacjnifhmgeiaaGreatDoorXmlRb
import Derived.Test.YtkacjnifhmgeiaaGreatDoorGrpL
import Derived.Test.YtkacjnifhmgeiaaGreatDoorGrpK
namespace Go.Proofs.YtkacjnifhmgeiaaGreatDoor
open Go.RowKit

theorem cf_istitle : ∀ (args : Array Value) (W : World), Sem.run Tryz.prog (callFunc 40 args) W = .ok (.enter 40 args) W := by
  intro args W
  simp [callFunc, go_sem, Tryz.func40, Tryz.f40]
set_option maxRecDepth 100000 in
set_option maxHeartbeats 2000000 in
theorem checkAttrsT_c (l : List Atr) (v : Value) (hl : l.length ≤ 1099511627776) (hn : ∀ a ∈ l, a.1.length ≤ 1099511627776) (w : World) (hA : AtS w v l) :
    Calls Tryz.prog 41 #[v, .func (.func 40) #[] #[]] w fun e w' => e = .returned (.int .i64 (atX l)) ∧ Bl w w' := by
  obtain ⟨ao, c, rfl, hA⟩ := hA
  have hcf := cf_istitle
  have HNL := Lib.hid hn
  clear hn
  go_enter Tryz.func41, Tryz.ntmps41
  go_wp2
  go_loopw [5] (fun i wr => ∃ k : Nat, k ≤ l.length ∧ i = .int .i64 k ∧ Hid (atX l = atXF (l.take k) (l.drop k)) ∧ Bl w wr) (fun i _ => l.length - (intOf i).toNat)
  case atStart => exact ⟨0, Nat.zero_le _, rfl, Lib.hid rfl, Bl.refl _⟩
  case round =>
    obtain ⟨k, hk, rfl, HP, hbl⟩ := hrel
    by_cases hlt : k < l.length
    · obtain ⟨g, o, rfl, hg, h1, h2⟩ := hA k hlt
      have y1 := (hbl.cells.1 g _ hg).trans h1
      have hgr : g < wr.heap.size := Nat.lt_of_lt_of_le hg (Below.size hbl)
      have HE := Lib.hid (show atX l = (if isTi l[k].1 = false then 1 else if ((l.take k).any (isN l[k].1)) then 6 else atXF (l.take (k + 1)) (l.drop (k + 1))) by
        rw [HP.out, List.drop_eq_getElem_cons hlt, atXF_cons2, take_snoc l k hlt])
      have NC := Lib.hid (fun W => isTitle_c l[k].1 (by have := HNL.out _ (List.getElem_mem hlt); omega) W)
      clear h1 h2
      cases hN : isTi l[k].1
      · rw [hN] at NC HE
        simp only [if_true] at HE
        clear hN
        go_wp2_with (go_at_call 40; (with_reducible refine (NC.out _).mono ?_); rintro e w7 ⟨rfl, rfl⟩)
        go_ret
        exact ⟨by rw [HE.out]; rfl, hbl⟩
      · rw [hN] at NC HE
        simp only [Bool.true_eq_false, if_false] at HE
        clear hN
        go_wp2_with (go_at_call 40; (with_reducible refine (NC.out _).mono ?_); rintro e w7 ⟨rfl, rfl⟩)
        go_loopw [6] (fun i wq => ∃ j : Nat, j ≤ k ∧ i = .int .i64 j ∧ Hid ((l.take j).any (isN l[k].1) = false) ∧ Bl wr wq) (fun i _ => k - (intOf i).toNat)
        case atStart => exact ⟨0, Nat.zero_le _, rfl, Lib.hid rfl, Bl.refl _⟩
        case round =>
          obtain ⟨j, hj, rfl, HJ, hbj⟩ := hrel
          have hbw := hbl.trans hbj
          have x1 := (hbj.cells.1 g _ hgr).trans y1
          by_cases hjk : j < k
          · obtain ⟨g2, o2, e2, _, q1, _⟩ := hA j (by omega)
            cases e2
            have q1 := (hbw.cells.1 g _ hg).trans q1
            by_cases hs : l[j].1 = l[k].1
            · have HY := Lib.hid (show (l.take k).any (isN l[k].1) = true by
                rw [List.any_eq_true]
                exact ⟨l[j], List.mem_take_iff_getElem.2 ⟨j, by omega, rfl⟩, by simp [isN, hs]⟩)
              rw [HY.out] at HE
              simp only [if_true] at HE
              rw [hs] at q1
              go_wp2
              go_quiet (fail)
              go_wp2
              go_ret
              exact ⟨by rw [HE.out]; rfl, by first | exact hbw | exact hbw.drewN _⟩
            · have HY := Lib.hid (show (l.take (j + 1)).any (isN l[k].1) = false by
                rw [take_snoc l j (by omega), List.any_append, HJ.out]
                simp [isN, hs])
              have hs' : (l[j].1 == l[k].1) = false := by simpa using hs
              go_wp2
              go_quiet (fail)
              go_wp2
              go_roundw
              case rel => exact ⟨j + 1, by omega, by go_num, HY, by first | exact hbj | exact hbj.drewN _⟩
              case measure => simp [intOf]; omega
          · have HK := Lib.hid (show (l.take k).any (isN l[k].1) = false by have := HJ.out; rwa [show j = k by omega] at this)
            rw [HK.out] at HE
            simp only [Bool.false_eq_true, if_false] at HE
            go_wp2
            go_roundw
            case rel => exact ⟨k + 1, by omega, by go_num, HE, hbw⟩
            case measure => simp [intOf]; omega
    · have HE := Lib.hid (show atX l = 0 by rw [HP.out, List.drop_eq_nil_of_le (by omega)]; rfl)
      go_wp2
      go_ret
      exact ⟨by rw [HE.out]; rfl, hbl⟩

theorem qt_join {x y z : World} (h : Qt x y) (k : Qt y z) : Qt x z := by
  obtain ⟨m, rfl⟩ := h
  obtain ⟨n, rfl⟩ := k
  exact (Qt.refl _).drewN m |>.drewN n
theorem tw_step {c d : UInt8} {t : List UInt8} {k : Nat} (hk : k < t.length) (hd : t[k] = d) : ((t.drop k).takeWhile (· != c)).length = if d = c then 0 else ((t.drop (k + 1)).takeWhile (· != c)).length + 1 := by
  rw [List.drop_eq_getElem_cons hk, hd, List.takeWhile_cons]
  by_cases h : d = c
  · simp [h]
  · simp [h]
set_option maxHeartbeats 1000000 in
/-- Where the next < stands, or the end. -/
theorem upTo_c (s : List UInt8) (a : Nat) (c : UInt8) (hs : s.length ≤ 1099511627776) (ha : a ≤ s.length) (w : World) :
    Calls Tryz.prog 52 #[.string ⟨s.toArray⟩, .int .i64 (a : Int), .string ⟨#[c]⟩] w fun e w' => e = .returned (.int .i64 ((a + ((s.drop a).takeWhile (· != c)).length : Nat) : Int)) ∧ Qt w w' := by
  go_enter Tryz.func52, Tryz.ntmps52
  go_wp2
  go_loopw [1] (fun i wr => ∃ k : Nat, k ≤ s.length ∧ i = .int .i64 k ∧ Hid (a + ((s.drop a).takeWhile (· != c)).length = k + ((s.drop k).takeWhile (· != c)).length) ∧ Qt w wr) (fun i _ => s.length - (intOf i).toNat)
  case atStart => exact ⟨a, ha, rfl, Lib.hid rfl, Qt.refl _⟩
  case round =>
    obtain ⟨k, hk, rfl, HA, hq⟩ := hrel
    by_cases hlt : k < s.length
    · have HS := Lib.hid (tw_step (c := c) hlt rfl)
      obtain ⟨wo, rfl⟩ : ∃ wo : World, wo = wr := ⟨_, rfl⟩
      go_wp2
      go_loopw [7] (fun j wq => ∃ m : Nat, m ≤ 1 ∧ j = .int .i64 m ∧ Hid (m = 1 → s[k] ≠ c) ∧ Qt wo wq) (fun j _ => 1 - (intOf j).toNat)
      case atStart => exact ⟨0, by omega, rfl, Lib.hid (fun h => by omega), Qt.refl _⟩
      case round =>
        obtain ⟨m, hm, rfl, HM, hq2⟩ := hrel
        by_cases hm0 : m = 0
        · subst hm0
          by_cases he : s[k] = c
          · have HF := Lib.hid (show a + ((s.drop a).takeWhile (· != c)).length = k by rw [HA.out, HS.out, if_pos he]; rfl)
            have hE : ((s[k].toNat : Int) == (c.toNat : Int)) = true := by rw [he]; simp
            clear he
            go_wp2_with (go_quiet (fail))
            go_ret
            exact ⟨congrArg (fun z : Int => Ending.returned (Value.int .i64 z)) (show (k : Int) = _ by have := HF.out; omega), qt_join hq (by repeat (first | exact hq2 | refine Qt.drewN ?_ _))⟩
          · have hE : ((s[k].toNat : Int) == (c.toNat : Int)) = false := by
              have : s[k].toNat ≠ c.toNat := fun h => he (UInt8.toNat_inj.1 h)
              simp; omega
            have HN := Lib.hid he
            clear he
            go_wp2_with (go_quiet (fail))
            go_roundw
            case rel => exact ⟨1, by omega, by go_num, Lib.hid (fun _ => HN.out), by repeat (first | exact hq2 | refine Qt.drewN ?_ _)⟩
            case measure => simp [intOf]
        · obtain rfl : m = 1 := by omega
          have HF := Lib.hid (show a + ((s.drop a).takeWhile (· != c)).length = (k + 1) + ((s.drop (k + 1)).takeWhile (· != c)).length by rw [HA.out, HS.out, if_neg (HM.out rfl)]; omega)
          go_wp2
          go_roundw
          case rel => exact ⟨k + 1, by omega, by go_num, HF, qt_join hq hq2⟩
          case measure => simp [intOf]; omega
    · have HF := Lib.hid (show a + ((s.drop a).takeWhile (· != c)).length = k by rw [HA.out, List.drop_eq_nil_of_le (by omega)]; rfl)
      go_wp2
      go_ret
      exact ⟨congrArg (fun z : Int => Ending.returned (Value.int .i64 z)) (show (k : Int) = _ by have := HF.out; omega), hq⟩

theorem addTextR_c (base : Nat) (P : Nat → Prop) (x : List Nd) (ents : List Nent) (v : Value) (t : List UInt8) (w : World) (H : NdO w base P v x ents) (hP : ∀ k, P k → k < w.heap.size) (hbase : base ≤ w.heap.size) (hx : x.length ≤ 10000000) (ht : t.length ≤ 100000000)
    (hlast : ∀ c ∈ x, c.x.length ≤ 100000000) :
    Calls Tryz.prog 51 #[v, .string ⟨t.toArray⟩] w fun e w' => ∃ v' ents', e = .returned v' ∧ NdO w' base P v' (addT x t) ents' ∧ Below base w w' := by
  by_cases ht0 : t = []
  · subst ht0
    have HH := Lib.hid H
    clear H hlast
    go_enter Tryz.func51, Tryz.ntmps51
    go_wp2
    go_ret
    exact ⟨_, ents, rfl, by unfold addT; rw [if_pos rfl]; exact HH.out, Below.refl _ _⟩
  have hte : t.isEmpty = false := by cases t <;> simp_all
  have HAT := Lib.hid (show addT x t = pt x (.mk [] [] t []) by unfold addT; rw [if_neg ht0])
  have JC := Lib.hid (joinText_c base P x ents v t w H hP hbase hx ht hlast)
  clear ht0 H hlast
  go_enter Tryz.func51, Tryz.ntmps51
  go_wp2_with (go_at_call 68; (with_reducible refine JC.out.mono ?_); rintro e w1 ⟨v1, ents1, rfl, hN1, hb1⟩)
  go_ret
  exact ⟨_, ents1, rfl, by rw [HAT.out]; exact hN1, hb1⟩

/-- The first piece of a code of which p is true. -/
def fc (p : Code → Bool) : Code → Option Code
  | .block m c => if p (.block m c) then some (.block m c) else fc p c
  | .seq a b => if p (.seq a b) then some (.seq a b) else match fc p a with
    | some c => some c
    | none => fc p b
  | .cond t a b => if p (.cond t a b) then some (.cond t a b) else match fc p a with
    | some c => some c
    | none => fc p b
  | .loop c => if p (.loop c) then some (.loop c) else fc p c
  | .scope c => if p (.scope c) then some (.scope c) else fc p c
  | .region i o d => if p (.region i o d) then some (.region i o d) else none
  | _ => none
def isReg (n : Nat) : Code → Bool
  | .region i _ _ => i == n
  | _ => false
def isBlk (n : Nat) : Code → Bool
  | .block i _ => i == n
  | _ => false
/-- What begins with a region, up to its end. -/
def isSeq (n : Nat) : Code → Bool
  | .seq (.region i _ _) _ => i == n
  | .seq (.seq (.region i _ _) _) _ => i == n
  | _ => false
end Go.Proofs.YtkacjnifhmgeiaaGreatDoor

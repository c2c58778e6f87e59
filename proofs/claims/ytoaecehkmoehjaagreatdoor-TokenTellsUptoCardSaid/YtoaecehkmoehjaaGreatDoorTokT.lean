/- Tokens: step whole; try; All; Read. -/
import Derived.Test.YtoaecehkmoehjaaGreatDoorTokQ
import Derived.Test.YtoaecehkmoehjaaGreatDoorTokR
import Derived.Recover
namespace Go.Proofs.YtoaecehkmoehjaaGreatDoor
open Go.RowKit

theorem hd_head (r : List UInt8) : hd ltr r = (r.head?.map ltr).getD false := by cases r <;> rfl
theorem cutS_skip (p c : UInt8) (r : List UInt8) (h : p ≠ c) : cutS [p] (c :: r) = cutS [p] r := by
  conv => lhs; unfold cutS
  rw [if_neg]
  simp only [pre, List.isPrefixOf, Bool.and_true, beq_iff_eq]; exact h
theorem step_c (b : Nat) (s t x : List UInt8) (l : List Tok) (v : Value) (w : World) (hR : Rr w b s t x v) (hT : TkO w (b + 1) v l) (ht : t ≠ []) (hs : s.length ≤ 1073741824) (hx : x.length ≤ 1073741824) (hl : l.length ≤ 1073741823) (hE : ES w) (hbE : 1 < b) (hM : ML w) (hbM : 0 < b) :
    Calls Tryz.prog 53 #[.pointer (some ⟨b, 0, none⟩)] w fun e w' => StEnd w b s x l (stP t x l) e w' := by
  cases t with
  | nil => exact absurd rfl ht
  | cons c r =>
    by_cases hc : c = 60
    · subst hc
      have e0 : stP (60 :: r) x l = (match tagP r with | none => some (r, x ++ [60], l) | some none => none | some (some (none, u)) => some (u, x, l) | some (some (some k, u)) => if isNm k.2.1 then some (u, [], flsh x l ++ [k]) else some (u, x, l)) := by
        unfold stP; simp only [if_true]; rcases tagP r with _ | _ | ⟨_ | k, u⟩ <;> rfl
      have h1 : pre [60] (60 :: r) = true := by rw [pre_one]; rfl
      cases r with
      | nil =>
        rw [e0]
        exact step_lone b s [60] x l v w hR hT hs hx hl hE hbE hM hbM 60 [] (Lib.hid rfl) h1 rfl rfl rfl rfl rfl
      | cons d r =>
        by_cases hd' : ltr d = true
        · have e1 : stP (60 :: d :: r) x l = opR (d :: r) x l := by
            rw [e0, tagP_cons, if_pos hd']; unfold opR
            cases atP ((d :: r).dropWhile tch) [] with
            | none => rfl
            | some y => simp only [Option.map_some]; split <;> rfl
          rw [e1]
          exact step_open b s _ x l v w hR hT hs hx hl hE hbE hM hbM 60 (d :: r) (Lib.hid rfl) h1 hd'
        have h6 : hd ltr (List.drop 1 (60 :: d :: r)) = false := by simpa [hd] using hd'
        by_cases h47 : d = 47
        · subst h47
          have h2 : pre [60, 47] (60 :: 47 :: r) = true := by rw [pre_one, pre_one]; rfl
          have h3 : pre [60, 33, 45, 45] (60 :: 47 :: r) = false := by rw [pre_one]; exact pre_ne _ _ (by decide)
          have h4 : pre [60, 33] (60 :: 47 :: r) = false := by rw [pre_one]; exact pre_ne _ _ (by decide)
          have h5 : pre [60, 63] (60 :: 47 :: r) = false := by rw [pre_one]; exact pre_ne _ _ (by decide)
          by_cases h7 : hd ltr r = true
          · cases r with
            | nil => exact absurd h7 (by decide)
            | cons f r =>
              have e1 : stP (60 :: 47 :: f :: r) x l = clR (f :: r) x l := by
                rw [e0, tagP_cons, if_neg hd', if_pos ⟨rfl, by rw [← hd_head]; exact h7⟩]; unfold clR
                cases cutS [62] ((f :: r).dropWhile tch) with
                | none => rfl
                | some y => simp only [Option.map_some]; split <;> rfl
              rw [e1]
              exact step_close b s _ x l v w hR hT hs hx hl hE hbE hM hbM 60 47 (f :: r) (Lib.hid rfl) h1 h2 h6 h7
          · have e1 : stP (60 :: 47 :: r) x l = (cutS [62] ((60 :: 47 :: r).drop 0)).map fun u => (u, x, l) := by
              rw [e0, tagP_cons, if_neg hd', if_neg (by rintro ⟨_, h⟩; rw [← hd_head] at h; exact h7 h), if_neg (by rw [pre_ne _ _ (by decide)]; decide), if_pos (Or.inr (Or.inr rfl)), List.drop_zero, cutS_skip 62 60 _ (by decide)]
              cases cutS [62] (47 :: r) <;> rfl
            rw [e1]
            exact step_s47 b s _ x l v w hR hT hs hx hl hE hbE hM hbM h1 h2 h3 h4 h5 h6 (by simpa using h7)
        have h2 : pre [60, 47] (60 :: d :: r) = false := by rw [pre_one]; exact pre_ne _ _ h47
        have hn47 : ¬ (d = 47 ∧ (r.head?.map ltr).getD false = true) := fun h => h47 h.1
        by_cases h33 : d = 33
        · subst h33
          have h4 : pre [60, 33] (60 :: 33 :: r) = true := by rw [pre_one, pre_one]; rfl
          by_cases h3 : pre [33, 45, 45] (33 :: r) = true
          · have e1 : stP (60 :: 33 :: r) x l = (cutS [45, 45, 62] ((60 :: 33 :: r).drop 2)).map fun u => (u, x, l) := by
              rw [e0, tagP_cons, if_neg hd', if_neg hn47, if_pos h3]
              simp only [List.drop_succ_cons, List.drop_zero]
              cases cutS [45, 45, 62] r <;> rfl
            rw [e1]
            exact step_com b s _ x l v w hR hT hs hx hl hE hbE hM hbM h1 h2 (by rw [pre_one]; exact h3) h6
          · have e1 : stP (60 :: 33 :: r) x l = (cutS [62] ((60 :: 33 :: r).drop 0)).map fun u => (u, x, l) := by
              rw [e0, tagP_cons, if_neg hd', if_neg hn47, if_neg h3, if_pos (Or.inl rfl), List.drop_zero, cutS_skip 62 60 _ (by decide)]
              cases cutS [62] (33 :: r) <;> rfl
            rw [e1]
            exact step_s33 b s _ x l v w hR hT hs hx hl hE hbE hM hbM h1 h2 (by rw [pre_one]; simpa using h3) h4 h6
        have h3 : pre [60, 33, 45, 45] (60 :: d :: r) = false := by rw [pre_one]; exact pre_ne _ _ h33
        have h4 : pre [60, 33] (60 :: d :: r) = false := by rw [pre_one]; exact pre_ne _ _ h33
        have h3' : ¬ pre [33, 45, 45] (d :: r) = true := by rw [pre_ne _ _ h33]; decide
        by_cases h63 : d = 63
        · subst h63
          have e1 : stP (60 :: 63 :: r) x l = (cutS [62] ((60 :: 63 :: r).drop 0)).map fun u => (u, x, l) := by
            rw [e0, tagP_cons, if_neg hd', if_neg hn47, if_neg h3', if_pos (Or.inr (Or.inl rfl)), List.drop_zero, cutS_skip 62 60 _ (by decide)]
            cases cutS [62] (63 :: r) <;> rfl
          rw [e1]
          exact step_s63 b s _ x l v w hR hT hs hx hl hE hbE hM hbM h1 h2 h3 h4 (by rw [pre_one, pre_one]; rfl) h6
        · have h5 : pre [60, 63] (60 :: d :: r) = false := by rw [pre_one]; exact pre_ne _ _ h63
          have e1 : stP (60 :: d :: r) x l = some (d :: r, x ++ [60], l) := by
            rw [e0, tagP_cons, if_neg hd', if_neg hn47, if_neg h3', if_neg (fun h => h.elim h33 (fun h => h.elim h63 h47))]
          rw [e1]
          exact step_lone b s _ x l v w hR hT hs hx hl hE hbE hM hbM 60 (d :: r) (Lib.hid rfl) h1 h2 h3 h4 h5 h6
    · have e1 : stP (c :: r) x l = some ((c :: r).dropWhile not60, x ++ (c :: r).takeWhile not60, l) := by unfold stP; simp only [if_neg hc]
      rw [e1]
      exact step_text b s _ x l v w hR hT hs hx (pre_ne _ _ hc)

/-- The variable of a named result. -/
def Ok (w : World) (k : Nat) (v : Bool) : Prop := w.heap[k]? = some (.cells #[.bool v] 4 (0, 0))
theorem Ok.cells {w : World} {k : Nat} {v : Bool} (h : Ok w k v) : w.cell? ⟨k, 0, none⟩ = some (.bool v) ∧ w.frozen? ⟨k, 0, none⟩ = false := by
  unfold Ok at h
  simp [World.cell?, World.frozen?, h]
theorem try1_idle (p : Addr) (w : World) :
    CallsD Tryz.prog 52 #[.pointer (some p)] .returning w fun e u' w' => e = .returned (.tuple #[]) ∧ u' = .returning ∧ w' = w := by
  refine callsD_of_wpS Tryz.func52 rfl fun c₀ cs hu => ?_
  apply wpS_seq
  apply wpS_region
  simp [wpOpsS, go_sem, recoverD, hu, Tryz.ntmps52, Exit.thenS]
  apply wpS_seq
  apply wpS_region
  simp [wpOpsS, go_sem, Exit.thenS]
  refine wpS_cond (t := false) (by simp [Act.eval, Array.replicate]) ?_
  simp only [Bool.false_eq_true, if_false]
  refine wpS_of_wp (wp_skip ?_)
  cases c₀
  simp_all [bodyPostS, results, Tryz.results52]
theorem asserted (w : World) : (Instr.typeAssert (.iface 74 (.agg #[])) 20 74 true).run Tryz.prog w = .ok (.tuple #[.agg #[], .bool true]) w := by
  have hu : Tryz.prog.underlying 74 = some (.struct #[]) := by kernel_rfl
  simp [Instr.typeAssert, run_underlying hu]
set_option maxRecDepth 100000 in
set_option maxHeartbeats 2000000 in
theorem try1_caught (k : Nat) (v : Bool) (w : World) (hk : Ok w k v) :
    CallsD Tryz.prog 52 #[.pointer (some ⟨k, 0, none⟩)] (.panicking OPN) w fun e u' w' =>
      e = .returned (.tuple #[]) ∧ u' = .panicking [{ v := .iface 74 (.agg #[]), recovered := true }] ∧ ∃ o, w' = (w.setCell ⟨k, 0, none⟩ (.bool false)).alloc o := by
  obtain ⟨hc, hz⟩ := hk.cells
  refine callsD_of_wpS Tryz.func52 rfl fun c₀ cs hu => ?_
  apply wpS_seq
  apply wpS_region
  simp [wpOpsS, go_sem, recoverD, hu, Tryz.ntmps52, Exit.thenS, OPN]
  apply wpS_seq
  apply wpS_region
  simp [wpOpsS, go_sem, Exit.thenS]
  refine wpS_cond (t := true) (by simp [Act.eval, Array.replicate]) ?_
  simp only [if_true]
  have hta := asserted
  apply wpS_seq
  apply wpS_seq
  apply wpS_region
  simp [wpOpsS, go_sem, Exit.thenS, hta]
  apply wpS_seq
  apply wpS_region
  simp [wpOpsS, go_sem, Exit.thenS]
  refine wpS_cond (t := false) (by simp [Act.eval, Array.replicate]) ?_
  simp only [Bool.false_eq_true, if_false]
  refine wpS_of_wp (wp_skip ?_)
  have hlt : k < w.heap.size := (Array.getElem?_eq_some_iff.1 hk).1
  simp only [Exit.thenS]
  apply wpS_region
  simp [wpOpsS, go_sem, hc, hz, hlt]
  cases c₀
  simp_all [bodyPostS, results, Tryz.results52]
  exact ⟨_, rfl⟩

/-- How try ends. -/
def TrEnd (w0 : World) (b : Nat) (s x : List UInt8) (l : List Tok) (R : Option (List UInt8 × List UInt8 × List Tok)) (e : Ending) (w' : World) : Prop :=
  e = .returned (.bool R.isSome) ∧ Below b w0 w' ∧ match R with
    | none => ∃ t', RT w' b s t' x l
    | some (u, x', l') => RT w' b s u x' l'
theorem RT.of_gb {w w' : World} {b g : Nat} {s t x : List UInt8} {l : List Tok} (h : RT w b s t x l) (hg : w.grownBy w' (some g)) (hne : b ≠ g) (hT : ∀ v, TkO w (b + 1) v l → TkO w' (b + 1) v l) : RT w' b s t x l := by
  obtain ⟨v, h1, h2⟩ := h
  exact ⟨v, ⟨h1.rk.of_gb hg (by simpa using hne), h1.sf⟩, hT v h2⟩
theorem RT.of_bl {w w' : World} {b : Nat} {s t x : List UInt8} {l : List Tok} (h : RT w b s t x l) (hb : Bl w w') : RT w' b s t x l := by
  obtain ⟨v, h1, h2⟩ := h
  exact ⟨v, h1.of_bl hb, h2.of_bl hb⟩
/-- A store into the variable of a named result. -/
theorem RT.ok {w : World} {b k : Nat} {s t x : List UInt8} {l : List Tok} {v : Bool} (h : RT w b s t x l) (hk : Ok w k v) (hb : b ≠ k) (u : Value) : RT (w.setCell ⟨k, 0, none⟩ u) b s t x l := by
  refine h.of_gb (gb_set (gb_refl _ _) 0 u) hb (fun v' hT => ?_)
  obtain ⟨ents, h1, h2, h3⟩ := hT
  have key : ∀ {B e sz n : Nat} {va : Value} {xs : List Value}, w.ownsRow B e sz va n xs → e ≠ 4 → (w.setCell ⟨k, 0, none⟩ u).ownsRow B e sz va n xs := by
    intro B e sz n va xs h he
    refine World.ownsRow.kept h (gb_set (gb_refl _ w) 0 u) ?_
    rcases h.2 with ⟨rfl, _⟩ | ⟨g, c, cur, rfl, _, hg, _⟩
    · left; rfl
    · right
      simp only [Value.ownBlock, ne_eq, Option.some.injEq]
      rintro rfl
      unfold Ok at hk
      rw [hg] at hk
      exact he (Obj.cells.inj (Option.some.inj hk)).2.1
  exact ⟨ents, h1, key h2 (by decide), fun p hp => key (h3 p hp) (by decide)⟩

set_option maxRecDepth 100000 in
set_option maxHeartbeats 2000000 in
theorem try_c (b : Nat) (s t x : List UInt8) (l : List Tok) (w : World) (hR : RT w b s t x l) (ht : t ≠ []) (hs : s.length ≤ 1073741824) (hx : x.length ≤ 1073741824) (hl : l.length ≤ 1073741823) (hE : ES w) (hbE : 1 < b) (hM : ML w) (hbM : 0 < b) :
    Calls Tryz.prog 40 #[.pointer (some ⟨b, 0, none⟩)] w fun e w' => TrEnd w b s x l (stP t x l) e w' := by
  obtain ⟨v, hR, hT⟩ := hR
  have hbw := hR.rk.lt
  have hmf : ∀ (fn : Fn) (first cap : Array Value) (w : World), (Instr.makeFunc fn first cap).run Tryz.prog w = .ok (.func fn first cap) w := fun _ _ _ _ => rfl
  have hk0 : Ok (w.alloc (.cells #[.bool false] 4)) w.heap.size false := heap_alloc_new _ _
  have SC := Lib.hid (step_c b s t x l v (w.alloc (.cells #[.bool false] 4)) (hR.of_bl ((Bl.refl _).alloc _)) (hT.of_bl ((Bl.refl _).alloc _)) ht hs hx hl (hE.of_bl ((Bl.refl _).alloc _)) hbE (hM.of_bl ((Bl.refl _).alloc _)) hbM)
  cases hst : stP t x l with
  | none =>
    rw [hst] at SC
    clear hst
    go_enter_defers Tryz.func40, Tryz.ntmps40
    go_wp2_with (go_at_call 53; (with_reducible refine SC.out.mono ?_); rintro e w1 ⟨hB1, hF1, rfl, tz, hR1⟩)
    have hk1 : Ok w1 w.heap.size false := (hF1.block w.heap.size (by simp) (by omega) (fun cur => by rw [heap_alloc_new]; simp)).trans hk0
    obtain ⟨k1, k2⟩ := hk1.cells
    have hlt : w.heap.size < w1.heap.size := (Array.getElem?_eq_some_iff.1 hk1).1
    refine leaves_cons (f := 52) (args := #[.pointer (some ⟨w.heap.size, 0, none⟩)]) (by simp) (by simp [go_sem]) ?_
    refine (try1_caught w.heap.size false w1 hk1).mono ?_
    rintro e u' w2 ⟨rfl, rfl, o, rfl⟩
    have hR2 := (hR1.ok hk1 (by omega) (.bool false)).of_bl ((Bl.refl _).alloc o)
    have hB2 : Below b w ((w1.setCell ⟨w.heap.size, 0, none⟩ (.bool false)).alloc o) := Below.alloc (Below.setCell ((((Bl.refl w).alloc _).to_below b (Nat.le_of_lt hbw)).trans hB1) (Nat.le_of_lt hbw) _) (by simp; omega) o
    have hcell : ((w1.setCell ⟨w.heap.size, 0, none⟩ (.bool false)).alloc o).cell? ⟨w.heap.size, 0, none⟩ = some (.bool false) := by
      rw [World.cell?_alloc_old _ _ _ (by simp; omega)]
      exact World.cell?_setCell_same _ _ _ k1
    generalize (w1.setCell ⟨w.heap.size, 0, none⟩ (.bool false)).alloc o = w3 at hR2 hB2 hcell ⊢
    simp [Leaves, settle, results, Tryz.results40, go_sem, hcell]
    exact ⟨rfl, hB2, _, hR2⟩
  | some q =>
    obtain ⟨u, x', l'⟩ := q
    rw [hst] at SC
    clear hst
    go_enter_defers Tryz.func40, Tryz.ntmps40
    go_wp2_with (go_at_call 53; (with_reducible refine SC.out.mono ?_); rintro e w1 ⟨hB1, hF1, rfl, hR1⟩; have hk1 : Ok w1 w.heap.size false := (hF1.block w.heap.size (by simp) (by omega) (fun cur => by rw [heap_alloc_new]; simp)).trans hk0; obtain ⟨k1, k2⟩ := hk1.cells)
    have hlt : w.heap.size < w1.heap.size := (Array.getElem?_eq_some_iff.1 hk1).1
    refine leaves_cons (f := 52) (args := #[.pointer (some ⟨w.heap.size, 0, none⟩)]) (by simp) (by simp [go_sem]) ?_
    refine (try1_idle ⟨w.heap.size, 0, none⟩ _).mono ?_
    rintro e u' w2 ⟨rfl, rfl, rfl⟩
    have hR2 := hR1.ok hk1 (by omega) (.bool true)
    have hB2 : Below b w (w1.setCell ⟨w.heap.size, 0, none⟩ (.bool true)) := Below.setCell ((((Bl.refl w).alloc _).to_below b (Nat.le_of_lt hbw)).trans hB1) (Nat.le_of_lt hbw) _
    have hcell : (w1.setCell ⟨w.heap.size, 0, none⟩ (.bool true)).cell? ⟨w.heap.size, 0, none⟩ = some (.bool true) := World.cell?_setCell_same _ _ _ k1
    generalize w1.setCell ⟨w.heap.size, 0, none⟩ (.bool true) = w3 at hR2 hB2 hcell ⊢
    simp [Leaves, settle, results, Tryz.results40, go_sem, hcell]
    exact ⟨rfl, hB2, hR2⟩
end Go.Proofs.YtoaecehkmoehjaaGreatDoor

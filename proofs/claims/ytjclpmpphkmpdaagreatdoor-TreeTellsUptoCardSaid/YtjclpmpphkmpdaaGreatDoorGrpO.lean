/- Tokens: step whole; try; All; Read. · Tokens: All; Read. -/
import Derived.Test.YtjclpmpphkmpdaaGreatDoorGrpN
import Derived.Recover
import Derived.Test.YtjclpmpphkmpdaaGreatDoorGrpH
namespace Go.Proofs.YtjclpmpphkmpdaaGreatDoor
open Go.RowKit

theorem hd_head (r : List UInt8) : hd ltr r = (r.head?.map ltr).getD false := by cases r <;> rfl
theorem cutS_skip (p c : UInt8) (r : List UInt8) (h : p ≠ c) : cutS [p] (c :: r) = cutS [p] r := by
  conv => lhs; unfold cutS
  rw [if_neg]
  simp only [pre, List.isPrefixOf, Bool.and_true, beq_iff_eq]; exact h
theorem step_c (b : Nat) (s t x : List UInt8) (l : List Tok) (v : Value) (w : World) (hR : Rr w b s t x v) (hT : TkO w (b + 1) v l) (ht : t ≠ []) (hs : s.length ≤ 1073741824) (hx : x.length ≤ 1073741824) (hl : l.length ≤ 1073741823) (hE : ES w) (hbE : 1 < b) (hM : ML w) (hbM : 0 < b) :
    Calls Tryz.prog 62 #[.pointer (some ⟨b, 0, none⟩)] w fun e w' => StEnd w b s x l (stP t x l) e w' := by
  cases t with
  | nil => exact absurd rfl ht
  | cons c r =>
    by_cases hc : c = 60
    · subst hc
      have e0 : stP (60 :: r) x l = (match tagP r with | none => some (r, x ++ [60], l) | some none => none | some (some (none, u)) => some (u, x, l) | some (some (some k, u)) => if isNm k.2.1 then some (u, [], flsh x l ++ [k]) else some (u, x, l)) := by
        unfold stP; simp only [if_true]; rcases tagP r with _ | _ | ⟨_ | k, u⟩ <;> rfl
      have h1 : pre [60] (60 :: r) = true := by rw [pre_one]; rfl
      cases r with
      | nil =>
        rw [e0]
        exact step_lone b s [60] x l v w hR hT hs hx hl hE hbE hM hbM 60 [] (Lib.hid rfl) h1 rfl rfl rfl rfl rfl
      | cons d r =>
        by_cases hd' : ltr d = true
        · have e1 : stP (60 :: d :: r) x l = opR (d :: r) x l := by
            rw [e0, tagP_cons, if_pos hd']; unfold opR
            cases atP ((d :: r).dropWhile tch) [] with
            | none => rfl
            | some y => simp only [Option.map_some]; split <;> rfl
          rw [e1]
          exact step_open b s _ x l v w hR hT hs hx hl hE hbE hM hbM 60 (d :: r) (Lib.hid rfl) h1 hd'
        have h6 : hd ltr (List.drop 1 (60 :: d :: r)) = false := by simpa [hd] using hd'
        by_cases h47 : d = 47
        · subst h47
          have h2 : pre [60, 47] (60 :: 47 :: r) = true := by rw [pre_one, pre_one]; rfl
          have h3 : pre [60, 33, 45, 45] (60 :: 47 :: r) = false := by rw [pre_one]; exact pre_ne _ _ (by decide)
          have h4 : pre [60, 33] (60 :: 47 :: r) = false := by rw [pre_one]; exact pre_ne _ _ (by decide)
          have h5 : pre [60, 63] (60 :: 47 :: r) = false := by rw [pre_one]; exact pre_ne _ _ (by decide)
          by_cases h7 : hd ltr r = true
          · cases r with
            | nil => exact absurd h7 (by decide)
            | cons f r =>
              have e1 : stP (60 :: 47 :: f :: r) x l = clR (f :: r) x l := by
                rw [e0, tagP_cons, if_neg hd', if_pos ⟨rfl, by rw [← hd_head]; exact h7⟩]; unfold clR
                cases cutS [62] ((f :: r).dropWhile tch) with
                | none => rfl
                | some y => simp only [Option.map_some]; split <;> rfl
              rw [e1]
              exact step_close b s _ x l v w hR hT hs hx hl hE hbE hM hbM 60 47 (f :: r) (Lib.hid rfl) h1 h2 h6 h7
          · have e1 : stP (60 :: 47 :: r) x l = (cutS [62] ((60 :: 47 :: r).drop 0)).map fun u => (u, x, l) := by
              rw [e0, tagP_cons, if_neg hd', if_neg (by rintro ⟨_, h⟩; rw [← hd_head] at h; exact h7 h), if_neg (by rw [pre_ne _ _ (by decide)]; decide), if_pos (Or.inr (Or.inr rfl)), List.drop_zero, cutS_skip 62 60 _ (by decide)]
              cases cutS [62] (47 :: r) <;> rfl
            rw [e1]
            exact step_s47 b s _ x l v w hR hT hs hx hl hE hbE hM hbM h1 h2 h3 h4 h5 h6 (by simpa using h7)
        have h2 : pre [60, 47] (60 :: d :: r) = false := by rw [pre_one]; exact pre_ne _ _ h47
        have hn47 : ¬ (d = 47 ∧ (r.head?.map ltr).getD false = true) := fun h => h47 h.1
        by_cases h33 : d = 33
        · subst h33
          have h4 : pre [60, 33] (60 :: 33 :: r) = true := by rw [pre_one, pre_one]; rfl
          by_cases h3 : pre [33, 45, 45] (33 :: r) = true
          · have e1 : stP (60 :: 33 :: r) x l = (cutS [45, 45, 62] ((60 :: 33 :: r).drop 2)).map fun u => (u, x, l) := by
              rw [e0, tagP_cons, if_neg hd', if_neg hn47, if_pos h3]
              simp only [List.drop_succ_cons, List.drop_zero]
              cases cutS [45, 45, 62] r <;> rfl
            rw [e1]
            exact step_com b s _ x l v w hR hT hs hx hl hE hbE hM hbM h1 h2 (by rw [pre_one]; exact h3) h6
          · have e1 : stP (60 :: 33 :: r) x l = (cutS [62] ((60 :: 33 :: r).drop 0)).map fun u => (u, x, l) := by
              rw [e0, tagP_cons, if_neg hd', if_neg hn47, if_neg h3, if_pos (Or.inl rfl), List.drop_zero, cutS_skip 62 60 _ (by decide)]
              cases cutS [62] (33 :: r) <;> rfl
            rw [e1]
            exact step_s33 b s _ x l v w hR hT hs hx hl hE hbE hM hbM h1 h2 (by rw [pre_one]; simpa using h3) h4 h6
        have h3 : pre [60, 33, 45, 45] (60 :: d :: r) = false := by rw [pre_one]; exact pre_ne _ _ h33
        have h4 : pre [60, 33] (60 :: d :: r) = false := by rw [pre_one]; exact pre_ne _ _ h33
        have h3' : ¬ pre [33, 45, 45] (d :: r) = true := by rw [pre_ne _ _ h33]; decide
        by_cases h63 : d = 63
        · subst h63
          have e1 : stP (60 :: 63 :: r) x l = (cutS [62] ((60 :: 63 :: r).drop 0)).map fun u => (u, x, l) := by
            rw [e0, tagP_cons, if_neg hd', if_neg hn47, if_neg h3', if_pos (Or.inr (Or.inl rfl)), List.drop_zero, cutS_skip 62 60 _ (by decide)]
            cases cutS [62] (63 :: r) <;> rfl
          rw [e1]
          exact step_s63 b s _ x l v w hR hT hs hx hl hE hbE hM hbM h1 h2 h3 h4 (by rw [pre_one, pre_one]; rfl) h6
        · have h5 : pre [60, 63] (60 :: d :: r) = false := by rw [pre_one]; exact pre_ne _ _ h63
          have e1 : stP (60 :: d :: r) x l = some (d :: r, x ++ [60], l) := by
            rw [e0, tagP_cons, if_neg hd', if_neg hn47, if_neg h3', if_neg (fun h => h.elim h33 (fun h => h.elim h63 h47))]
          rw [e1]
          exact step_lone b s _ x l v w hR hT hs hx hl hE hbE hM hbM 60 (d :: r) (Lib.hid rfl) h1 h2 h3 h4 h5 h6
    · have e1 : stP (c :: r) x l = some ((c :: r).dropWhile not60, x ++ (c :: r).takeWhile not60, l) := by unfold stP; simp only [if_neg hc]
      rw [e1]
      exact step_text b s _ x l v w hR hT hs hx (pre_ne _ _ hc)

/-- The variable of a named result. -/
def Ok (w : World) (k : Nat) (v : Bool) : Prop := w.heap[k]? = some (.cells #[.bool v] 4 (0, 0))
theorem Ok.cells {w : World} {k : Nat} {v : Bool} (h : Ok w k v) : w.cell? ⟨k, 0, none⟩ = some (.bool v) ∧ w.frozen? ⟨k, 0, none⟩ = false := by
  unfold Ok at h
  simp [World.cell?, World.frozen?, h]
theorem try1_idle (p : Addr) (w : World) :
    CallsD Tryz.prog 61 #[.pointer (some p)] .returning w fun e u' w' => e = .returned (.tuple #[]) ∧ u' = .returning ∧ w' = w := by
  refine callsD_of_wpS Tryz.func61 rfl fun c₀ cs hu => ?_
  apply wpS_seq
  apply wpS_region
  simp [wpOpsS, go_sem, recoverD, hu, Tryz.ntmps61, Exit.thenS]
  apply wpS_seq
  apply wpS_region
  simp [wpOpsS, go_sem, Exit.thenS]
  refine wpS_cond (t := false) (by simp [Act.eval, Array.replicate]) ?_
  simp only [Bool.false_eq_true, if_false]
  refine wpS_of_wp (wp_skip ?_)
  cases c₀
  simp_all [bodyPostS, results, Tryz.results61]
theorem asserted (w : World) : (Instr.typeAssert (.iface 95 (.agg #[])) 20 95 true).run Tryz.prog w = .ok (.tuple #[.agg #[], .bool true]) w := by
  have hu : Tryz.prog.underlying 95 = some (.struct #[]) := by kernel_rfl
  simp [Instr.typeAssert, run_underlying hu]
set_option maxRecDepth 100000 in
set_option maxHeartbeats 2000000 in
theorem try1_caught (k : Nat) (v : Bool) (w : World) (hk : Ok w k v) :
    CallsD Tryz.prog 61 #[.pointer (some ⟨k, 0, none⟩)] (.panicking OPN) w fun e u' w' =>
      e = .returned (.tuple #[]) ∧ u' = .panicking [{ v := .iface 95 (.agg #[]), recovered := true }] ∧ ∃ o, w' = (w.setCell ⟨k, 0, none⟩ (.bool false)).alloc o := by
  obtain ⟨hc, hz⟩ := hk.cells
  refine callsD_of_wpS Tryz.func61 rfl fun c₀ cs hu => ?_
  apply wpS_seq
  apply wpS_region
  simp [wpOpsS, go_sem, recoverD, hu, Tryz.ntmps61, Exit.thenS, OPN]
  apply wpS_seq
  apply wpS_region
  simp [wpOpsS, go_sem, Exit.thenS]
  refine wpS_cond (t := true) (by simp [Act.eval, Array.replicate]) ?_
  simp only [if_true]
  have hta := asserted
  apply wpS_seq
  apply wpS_seq
  apply wpS_region
  simp [wpOpsS, go_sem, Exit.thenS, hta]
  apply wpS_seq
  apply wpS_region
  simp [wpOpsS, go_sem, Exit.thenS]
  refine wpS_cond (t := false) (by simp [Act.eval, Array.replicate]) ?_
  simp only [Bool.false_eq_true, if_false]
  refine wpS_of_wp (wp_skip ?_)
  have hlt : k < w.heap.size := (Array.getElem?_eq_some_iff.1 hk).1
  simp only [Exit.thenS]
  apply wpS_region
  simp [wpOpsS, go_sem, hc, hz, hlt]
  cases c₀
  simp_all [bodyPostS, results, Tryz.results61]
  exact ⟨_, rfl⟩

/-- How try ends. -/
def TrEnd (w0 : World) (b : Nat) (s x : List UInt8) (l : List Tok) (R : Option (List UInt8 × List UInt8 × List Tok)) (e : Ending) (w' : World) : Prop :=
  e = .returned (.bool R.isSome) ∧ Below b w0 w' ∧ match R with
    | none => ∃ t', RT w' b s t' x l
    | some (u, x', l') => RT w' b s u x' l'
theorem RT.of_gb {w w' : World} {b g : Nat} {s t x : List UInt8} {l : List Tok} (h : RT w b s t x l) (hg : w.grownBy w' (some g)) (hne : b ≠ g) (hT : ∀ v, TkO w (b + 1) v l → TkO w' (b + 1) v l) : RT w' b s t x l := by
  obtain ⟨v, h1, h2⟩ := h
  exact ⟨v, ⟨h1.rk.of_gb hg (by simpa using hne), h1.sf⟩, hT v h2⟩
theorem RT.of_bl {w w' : World} {b : Nat} {s t x : List UInt8} {l : List Tok} (h : RT w b s t x l) (hb : Bl w w') : RT w' b s t x l := by
  obtain ⟨v, h1, h2⟩ := h
  exact ⟨v, h1.of_bl hb, h2.of_bl hb⟩
/-- A store into the variable of a named result. -/
theorem RT.ok {w : World} {b k : Nat} {s t x : List UInt8} {l : List Tok} {v : Bool} (h : RT w b s t x l) (hk : Ok w k v) (hb : b ≠ k) (u : Value) : RT (w.setCell ⟨k, 0, none⟩ u) b s t x l := by
  refine h.of_gb (gb_set (gb_refl _ _) 0 u) hb (fun v' hT => ?_)
  obtain ⟨ents, h1, h2, h3⟩ := hT
  have key : ∀ {B e sz n : Nat} {va : Value} {xs : List Value}, w.ownsRow B e sz va n xs → e ≠ 4 → (w.setCell ⟨k, 0, none⟩ u).ownsRow B e sz va n xs := by
    intro B e sz n va xs h he
    refine World.ownsRow.kept h (gb_set (gb_refl _ w) 0 u) ?_
    rcases h.2 with ⟨rfl, _⟩ | ⟨g, c, cur, rfl, _, hg, _⟩
    · left; rfl
    · right
      simp only [Value.ownBlock, ne_eq, Option.some.injEq]
      rintro rfl
      unfold Ok at hk
      rw [hg] at hk
      exact he (Obj.cells.inj (Option.some.inj hk)).2.1
  exact ⟨ents, h1, key h2 (by decide), fun p hp => key (h3 p hp) (by decide)⟩

set_option maxRecDepth 100000 in
set_option maxHeartbeats 2000000 in
theorem try_c (b : Nat) (s t x : List UInt8) (l : List Tok) (w : World) (hR : RT w b s t x l) (ht : t ≠ []) (hs : s.length ≤ 1073741824) (hx : x.length ≤ 1073741824) (hl : l.length ≤ 1073741823) (hE : ES w) (hbE : 1 < b) (hM : ML w) (hbM : 0 < b) :
    Calls Tryz.prog 50 #[.pointer (some ⟨b, 0, none⟩)] w fun e w' => TrEnd w b s x l (stP t x l) e w' := by
  obtain ⟨v, hR, hT⟩ := hR
  have hbw := hR.rk.lt
  have hmf : ∀ (fn : Fn) (first cap : Array Value) (w : World), (Instr.makeFunc fn first cap).run Tryz.prog w = .ok (.func fn first cap) w := fun _ _ _ _ => rfl
  have hk0 : Ok (w.alloc (.cells #[.bool false] 4)) w.heap.size false := heap_alloc_new _ _
  have SC := Lib.hid (step_c b s t x l v (w.alloc (.cells #[.bool false] 4)) (hR.of_bl ((Bl.refl _).alloc _)) (hT.of_bl ((Bl.refl _).alloc _)) ht hs hx hl (hE.of_bl ((Bl.refl _).alloc _)) hbE (hM.of_bl ((Bl.refl _).alloc _)) hbM)
  cases hst : stP t x l with
  | none =>
    rw [hst] at SC
    clear hst
    go_enter_defers Tryz.func50, Tryz.ntmps50
    go_wp2_with (go_at_call 62; (with_reducible refine SC.out.mono ?_); rintro e w1 ⟨hB1, hF1, rfl, tz, hR1⟩)
    have hk1 : Ok w1 w.heap.size false := (hF1.block w.heap.size (by simp) (by omega) (fun cur => by rw [heap_alloc_new]; simp)).trans hk0
    obtain ⟨k1, k2⟩ := hk1.cells
    have hlt : w.heap.size < w1.heap.size := (Array.getElem?_eq_some_iff.1 hk1).1
    refine leaves_cons (f := 61) (args := #[.pointer (some ⟨w.heap.size, 0, none⟩)]) (by simp) (by simp [go_sem]) ?_
    refine (try1_caught w.heap.size false w1 hk1).mono ?_
    rintro e u' w2 ⟨rfl, rfl, o, rfl⟩
    have hR2 := (hR1.ok hk1 (by omega) (.bool false)).of_bl ((Bl.refl _).alloc o)
    have hB2 : Below b w ((w1.setCell ⟨w.heap.size, 0, none⟩ (.bool false)).alloc o) := Below.alloc (Below.setCell ((((Bl.refl w).alloc _).to_below b (Nat.le_of_lt hbw)).trans hB1) (Nat.le_of_lt hbw) _) (by simp; omega) o
    have hcell : ((w1.setCell ⟨w.heap.size, 0, none⟩ (.bool false)).alloc o).cell? ⟨w.heap.size, 0, none⟩ = some (.bool false) := by
      rw [World.cell?_alloc_old _ _ _ (by simp; omega)]
      exact World.cell?_setCell_same _ _ _ k1
    generalize (w1.setCell ⟨w.heap.size, 0, none⟩ (.bool false)).alloc o = w3 at hR2 hB2 hcell ⊢
    simp [Leaves, settle, results, Tryz.results50, go_sem, hcell]
    exact ⟨rfl, hB2, _, hR2⟩
  | some q =>
    obtain ⟨u, x', l'⟩ := q
    rw [hst] at SC
    clear hst
    go_enter_defers Tryz.func50, Tryz.ntmps50
    go_wp2_with (go_at_call 62; (with_reducible refine SC.out.mono ?_); rintro e w1 ⟨hB1, hF1, rfl, hR1⟩; have hk1 : Ok w1 w.heap.size false := (hF1.block w.heap.size (by simp) (by omega) (fun cur => by rw [heap_alloc_new]; simp)).trans hk0; obtain ⟨k1, k2⟩ := hk1.cells)
    have hlt : w.heap.size < w1.heap.size := (Array.getElem?_eq_some_iff.1 hk1).1
    refine leaves_cons (f := 61) (args := #[.pointer (some ⟨w.heap.size, 0, none⟩)]) (by simp) (by simp [go_sem]) ?_
    refine (try1_idle ⟨w.heap.size, 0, none⟩ _).mono ?_
    rintro e u' w2 ⟨rfl, rfl, rfl⟩
    have hR2 := hR1.ok hk1 (by omega) (.bool true)
    have hB2 : Below b w (w1.setCell ⟨w.heap.size, 0, none⟩ (.bool true)) := Below.setCell ((((Bl.refl w).alloc _).to_below b (Nat.le_of_lt hbw)).trans hB1) (Nat.le_of_lt hbw) _
    have hcell : (w1.setCell ⟨w.heap.size, 0, none⟩ (.bool true)).cell? ⟨w.heap.size, 0, none⟩ = some (.bool true) := World.cell?_setCell_same _ _ _ k1
    generalize w1.setCell ⟨w.heap.size, 0, none⟩ (.bool true) = w3 at hR2 hB2 hcell ⊢
    simp [Leaves, settle, results, Tryz.results50, go_sem, hcell]
    exact ⟨rfl, hB2, hR2⟩
end Go.Proofs.YtjclpmpphkmpdaaGreatDoor

namespace Go.Proofs.YtjclpmpphkmpdaaGreatDoor
open Go.RowKit

theorem tkP_lenT (s : List UInt8) : (TokL s).length ≤ s.length := by
  suffices h : ∀ (k : Nat) (s x : List UInt8) (l : List Tok), s.length ≤ k → (tkF k s x l).length ≤ l.length + (if x = [] then 0 else 1) + s.length by
    have := h s.length s [] [] (Nat.le_refl _)
    simpa [TokL, tkP] using this
  have hfl : ∀ (x : List UInt8) (l : List Tok), (flsh x l).length ≤ l.length + (if x = [] then 0 else 1) := by
    intro x l
    unfold flsh
    by_cases hx : x = []
    · subst hx; simp [Tk_nil]
    · rw [if_neg hx]; split <;> simp
  intro k
  induction k with
  | zero => intro s x l _; have := hfl x l; simp only [tkF]; omega
  | succ k ih =>
    intro s x l hs
    cases s with
    | nil => have := hfl x l; simp only [tkF]; omega
    | cons c r =>
      simp only [List.length_cons, Nat.add_le_add_iff_right] at hs ⊢
      have h01 : (if x = [] then 0 else 1) ≤ 1 := by split <;> omega
      unfold tkF
      split
      · split
        · have := ih r (x ++ [60]) l hs
          rw [if_neg (by simp)] at this; omega
        · have := hfl (x ++ 60 :: r) l
          rw [if_neg (by simp)] at this; omega
        · rename_i u e
          have hl := tagP_len _ _ _ e
          have := ih u x l (by omega); omega
        · rename_i t u e
          have hl := tagP_len _ _ _ e
          split
          · have h1 := ih u [] (flsh x l ++ [t]) (by omega)
            have h2 := hfl x l
            rw [if_pos rfl] at h1
            simp only [List.length_append, List.length_singleton] at h1; omega
          · have := ih u x l (by omega); omega
      · have := ih r (x ++ [c]) l hs
        rw [if_neg (by simp)] at this; omega

theorem own_base {w : World} {B B' : Nat} {e : TypeId} {sz n : Nat} {v : Value} {xs : List Value} (h : w.ownsRow B e sz v n xs) (hB : B' ≤ B) : w.ownsRow B' e sz v n xs := by
  refine ⟨h.1, ?_⟩
  rcases h.2 with hn | ⟨k, cap, cur, rfl, hk, rest⟩
  · exact .inl hn
  · exact .inr ⟨k, cap, cur, rfl, Nat.le_trans hB hk, rest⟩
theorem TkO.base_le {w : World} {B B' : Nat} {v : Value} {l : List Tok} (h : TkO w B v l) (hB : B' ≤ B) : TkO w B' v l := by
  obtain ⟨ents, h1, h2, h3⟩ := h
  exact ⟨ents, h1, own_base h2 hB, fun p hp => (h3 p hp).base_le hB⟩
set_option maxRecDepth 100000 in
set_option maxHeartbeats 4000000 in
theorem all_c (s : List UInt8) (w : World) (hs : s.length ≤ 1000000000) (hE : ES w) (hM : ML w) :
    Calls Tryz.prog 39 #[.string ⟨s.toArray⟩] w fun e w' => ∃ v, e = .returned v ∧ TkO w' w.heap.size v (TokL s) ∧ Bl w w' := by
  have hbE : 1 < w.heap.size := by obtain ⟨_, _, h, _⟩ := hE; exact h
  have hbM : 0 < w.heap.size := by obtain ⟨_, h, _⟩ := hM; exact h
  have hR0 : RT (w.alloc (.cells #[.string ⟨s.toArray⟩, .int .i64 0, .string ⟨#[]⟩, .slice none 0 0] 79)) w.heap.size s s [] [] := by
    refine ⟨.slice none 0 0, ⟨?_, List.suffix_refl _⟩, TkO.nil _ _⟩
    unfold Rk
    rw [heap_alloc_new]
    simp
  go_enter Tryz.func39, Tryz.ntmps39
  go_wp2
  go_loopw [4] (fun _ wr => ∃ (t x : List UInt8) (l : List Tok), Hid (TokL s = tkP t x l) ∧ RT wr w.heap.size s t x l ∧ Bl w wr ∧ x.length + t.length ≤ s.length ∧ l.length + t.length ≤ s.length) (fun _ wr => s.length - atOf w.heap.size wr)
  case atStart => exact ⟨s, [], [], Lib.hid rfl, hR0, (Bl.refl _).alloc _, by simp, by simp⟩
  case round =>
    obtain ⟨t, x, l, HT, hRT, hbl, hxt, hlt⟩ := hrel
    obtain ⟨v, hR, hT⟩ := hRT
    have hln := hR.len
    have hmeas := hR.meas
    obtain ⟨a0, a1, a2, a3, f0, f1, f2, f3⟩ := hR.rk.cells
    have hdr := sfx_drop hR.sf
    obtain ⟨K, hK⟩ : ∃ K, s.length - t.length = K := ⟨_, rfl⟩
    rw [hK] at a1 hdr
    have hE1 := hE.of_bl hbl
    have hM1 := hM.of_bl hbl
    by_cases ht : t = []
    · subst ht
      have hKs : K = s.length := by simpa using hK.symm
      subst hKs
      have FC := Lib.hid (flush_c w.heap.size s [] x l v wr hR hT (by omega) (by omega) hE1)
      have HF := Lib.hid (show TokL s = flsh x l by rw [HT.out, tkP_nil])
      clear hK hdr
      go_wp2_with (go_at_call 51; (with_reducible refine FC.out.mono ?_); clear a0 a1 a2 a3 f0 f1 f2 f3; rintro e w1 ⟨rfl, ⟨v1, hR1, hT1⟩, hF1⟩; obtain ⟨a0, a1, a2, a3, f0, f1, f2, f3⟩ := hR1.rk.cells)
      go_ret
      refine ⟨v1, rfl, ?_, ?_⟩
      · rw [HF.out]; exact hT1.base_le (Nat.le_succ _)
      · exact Below.trans hbl (hF1.below (fun j hj => by have := (hT.lt j hj).1; omega) (Nat.le_of_lt hR.rk.lt))
    · have hKl : (K : Int) < (s.length : Int) := by have := List.length_pos_iff.2 ht; omega
      have TC := Lib.hid (try_c w.heap.size s t x l wr ⟨v, hR, hT⟩ ht (by omega) (by omega) (by omega) hE1 hbE hM1 hbM)
      have HS := Lib.hid (tkP_st t x l ht)
      have HLN := Lib.hid (stP_len t x l ht)
      have HDR := Lib.hid hdr
      have htl := List.length_pos_iff.2 ht
      clear hK hdr ht
      cases hst : stP t x l with
      | none =>
        rw [hst] at TC
        have HF := Lib.hid (show TokL s = flsh (x ++ t) l by rw [HT.out, HS.out, hst])
        clear hst
        have hdl : (List.drop K s).length ≤ t.length := by rw [HDR.out]; exact Nat.le_refl _
        have FC := Lib.hid (fun t1 v1 W h1 h2 h3 => flush_c w.heap.size s t1 (x ++ List.drop K s) l v1 W h1 h2 (by simp only [List.length_append]; omega) (by omega) h3)
        go_wp2_with (first | (go_at_call 50; (with_reducible refine TC.out.mono ?_); clear a0 a1 a2 a3 f0 f1 f2 f3; rintro e w1 ⟨rfl, hB1, t1, v1, hR1, hT1⟩; obtain ⟨a0, a1, a2, a3, f0, f1, f2, f3⟩ := hR1.rk.cells; have hB1' := Below.trans hbl hB1; have hg2 := gb_set (b := w.heap.size) (gb_refl _ w1) 2 (.string ⟨(x ++ List.drop K s).toArray⟩); have hR2 : Rr _ w.heap.size s t1 (x ++ List.drop K s) v1 := ⟨hR1.rk.set2 (x ++ List.drop K s), hR1.sf⟩; have hT2 := hT1.of_gb hg2 (Nat.lt_succ_self _); have hE2 := (hE.of_bl hB1').of_gb hg2 hbE; have hR3 := hR2.of_bl (b0_drew _); have hT3 := hT2.of_bl (b0_drew _); have hE3 := hE2.of_bl (b0_drew _)) | (go_at_call 51; (with_reducible refine (FC.out _ _ _ hR3 hT3 hE3).mono ?_); clear a0 a1 a2 a3 f0 f1 f2 f3; rintro e w4 ⟨rfl, ⟨v4, hR4, hT4⟩, hF4⟩; obtain ⟨a0, a1, a2, a3, f0, f1, f2, f3⟩ := hR4.rk.cells) | go_region_with (fail))
        all_goals
          go_ret
          refine ⟨v4, rfl, ?_, ?_⟩
          · rw [HF.out, ← HDR.out]; exact hT4.base_le (Nat.le_succ _)
          · exact Below.trans (Below.drew (Below.setCell hB1' (Nat.le_refl _) _)) (hF4.below (fun j hj => by have := (hT3.lt j hj).1; omega) (Nat.le_of_lt hR3.rk.lt))
      | some q =>
        obtain ⟨u, x', l'⟩ := q
        rw [hst] at TC
        have HF := Lib.hid (show TokL s = tkP u x' l' by rw [HT.out, HS.out, hst])
        obtain ⟨n1, n2, n3⟩ := HLN.out u x' l' hst
        clear hst
        go_wp2_with (go_at_call 50; (with_reducible refine TC.out.mono ?_); clear a0 a1 a2 a3 f0 f1 f2 f3; rintro e w1 ⟨rfl, hB1, v1, hR1, hT1⟩)
        go_roundw
        case rel => exact ⟨u, x', l', HF, ⟨v1, hR1, hT1⟩, Below.trans hbl hB1, by omega, by omega⟩
        case measure => rw [hmeas, hR1.meas]; exact n1

/-- Own tokens read as tokens. -/
theorem addr_add0 (g i : Nat) : (⟨g, 0, none⟩ : Addr).add i = ⟨g, i, none⟩ := by unfold Addr.add; split <;> simp_all
theorem TkO.tks {w : World} {base : Nat} {v : Value} {l : List Tok} (h : TkO w base v l) : TkS w v l := by
  obtain ⟨ents, rfl, h2, h3⟩ := h
  have h' := h2
  rcases h2.2 with ⟨rfl, h0⟩ | ⟨g, cap, cur, rfl, -, hg, -⟩
  · have : ents = [] := List.eq_nil_of_length_eq_zero h0
    subst this
    exact ⟨none, 0, rfl, fun i hi => absurd hi (by simp)⟩
  · refine ⟨some ⟨g, 0, none⟩, cap, by simp, fun i hi => ?_⟩
    have hi' : i < ents.length := by simpa using hi
    obtain ⟨t1, t2, t3, t4⟩ := tkC_get ents i hi'
    have key := fun j u h => World.ownsRow.cells h' (g := g) rfl j u h
    simp only [addr_add0] at key
    refine ⟨g, 0, ents[i].2, rfl, (Array.getElem?_eq_some_iff.1 hg).1, ?_, ?_, ?_, ?_, ?_, ?_⟩
    · have := key _ _ t1; simpa using this
    · have := key _ _ t2; simpa using this
    · have := key _ _ t3; simpa using this
    · have := key _ _ t4; simpa using this
    · have := (h3 ents[i] (List.getElem_mem hi')).ats; simpa using this
    · have := h3 ents[i] (List.getElem_mem hi')
      rcases this.2 with ⟨e, _⟩ | ⟨g2, cap2, cur2, e, _, _, hc, _⟩
      · exact ⟨none, 0, 0, e, Nat.le_refl _⟩
      · exact ⟨_, _, _, e, hc⟩
def rdT (s : List UInt8) : List Tok := if 3000 < s.length then [] else TokL s
def rdE (s : List UInt8) : Int := if 3000 < s.length then 2 else 0
theorem TkS.nil (w : World) : TkS w (.slice none 0 0) [] := ⟨none, 0, rfl, fun i hi => absurd hi (by simp)⟩
set_option maxHeartbeats 1000000 in
theorem read_c (s : List UInt8) (w : World) (hE : ES w) (hM : ML w) :
    Calls Tryz.prog 26 #[.string ⟨s.toArray⟩] w fun e w' => ∃ v, e = .returned (.tuple #[v, .int .i64 (rdE s)]) ∧ TkS w' v (rdT s) ∧ Bl w w' := by
  by_cases h : 3000 < s.length
  · have h' : (3000 : Int) < (s.length : Int) := by omega
    have HE := Lib.hid (show rdE s = 2 by unfold rdE; rw [if_pos h])
    have HT := Lib.hid (show rdT s = [] by unfold rdT; rw [if_pos h])
    clear h
    go_enter Tryz.func26, Tryz.ntmps26
    go_wp2
    go_ret2
    exact ⟨_, by rw [HE.out]; rfl, by rw [HT.out]; exact TkS.nil _, Bl.refl _⟩
  · have h' : ¬ (3000 : Int) < (s.length : Int) := by omega
    have HE := Lib.hid (show rdE s = 0 by unfold rdE; rw [if_neg h])
    have HT := Lib.hid (show rdT s = TokL s by unfold rdT; rw [if_neg h])
    have AC := Lib.hid (all_c s w (by omega) hE hM)
    clear h
    go_enter Tryz.func26, Tryz.ntmps26
    go_wp2_with (go_at_call 39; (with_reducible refine AC.out.mono ?_); rintro e w1 ⟨v, rfl, hT, hb⟩)
    go_ret2
    exact ⟨v, by rw [HE.out]; rfl, by rw [HT.out]; exact hT.tks, hb⟩
end Go.Proofs.YtjclpmpphkmpdaaGreatDoor

/- Trees: kinds of elements; how many stay open. · Trees: a builder in memory. · Trees: stays; names; put; close. · Trees: names of those that are open. -/
import Derived.Test.YtamdlihgecpbkaaGreatDoorGrpF
set_option maxRecDepth 100000
set_option maxHeartbeats 2000000
namespace Go.Proofs.YtamdlihgecpbkaaGreatDoor
open Go.RowKit
theorem empty_c (n : Nm) (w : World) : Calls Tryz.prog 85 #[.string ⟨n.toArray⟩] w fun e w' => e = .returned (.bool (emptyN n)) ∧ w = w' := by
 go_enter Tryz.func85, Tryz.ntmps85; go_wp2; all_goals (go_ret; exact ⟨ret_bool (by rw [Bool.eq_iff_iff]; simp [emptyN, sBr, sHr, sImg, *] <;> exact decide_eq_true_iff.symm), rfl⟩)
theorem wall_c (n : Nm) (w : World) : Calls Tryz.prog 148 #[.string ⟨n.toArray⟩] w fun e w' => e = .returned (.bool (wallN n)) ∧ w = w' := by
 go_enter Tryz.func148, Tryz.ntmps148; go_wp2; all_goals (go_ret; exact ⟨ret_bool (by rw [Bool.eq_iff_iff]; simp [wallN, sUl, sOl, sLi, sBq, *] <;> exact decide_eq_true_iff.symm), rfl⟩)
theorem block_c (n : Nm) (w : World) : Calls Tryz.prog 147 #[.string ⟨n.toArray⟩] w fun e w' => e = .returned (.bool (blkN n)) ∧ w = w' := by
 go_enter Tryz.func147, Tryz.ntmps147; go_wp2_with (go_at_call 148; (with_reducible refine (wall_c _ _).mono ?_); rintro e w' ⟨rfl, rfl⟩); all_goals (go_ret; exact ⟨ret_bool (by rw [Bool.eq_iff_iff]; simp [blkN, sP, sHr, *] <;> exact decide_eq_true_iff.symm), rfl⟩)
theorem ulol_c (n : Nm) (w : World) : Calls Tryz.prog 149 #[.string ⟨n.toArray⟩] w fun e w' => e = .returned (.bool (ulolN n)) ∧ w = w' := by
 go_enter Tryz.func149, Tryz.ntmps149; go_wp2; all_goals (go_ret; exact ⟨ret_bool (by rw [Bool.eq_iff_iff]; simp [ulolN, sUl, sOl, *] <;> exact decide_eq_true_iff.symm), rfl⟩)
theorem never_c (n : Nm) (w : World) : Calls Tryz.prog 120 #[.string ⟨n.toArray⟩] w fun e w' => e = .returned (.bool false) ∧ w = w' := by
 go_enter Tryz.func120, Tryz.ntmps120; go_wp2; go_ret; exact ⟨rfl, rfl⟩
structure DoN (N : Nat) (p : Nm → Bool) : Prop where
 cf : ∀ (args : Array Value) (W : World), Sem.run Tryz.prog (callFunc N args) W = .ok (.enter N args) W
 go : ∀ (n : Nm) W, Calls Tryz.prog N #[.string ⟨n.toArray⟩] W fun e w' => e = .returned (.bool (p n)) ∧ W = w'
theorem do_wall : DoN 148 wallN := ⟨fun args W => by simp [callFunc, go_sem, Tryz.func148, Tryz.f148], wall_c⟩
theorem do_ulol : DoN 149 ulolN := ⟨fun args W => by simp [callFunc, go_sem, Tryz.func149, Tryz.f149], ulol_c⟩
theorem do_never : DoN 120 (fun _ => false) := ⟨fun args W => by simp [callFunc, go_sem, Tryz.func120, Tryz.f120], never_c⟩
def StS (w : World) (v : Value) (l : List Nm) : Prop :=
 ∃ ao cap, v = .slice ao l.length cap ∧ l.length ≤ cap ∧ ∀ i (h : i < l.length), ∃ g o, ao = some ⟨g, o, none⟩ ∧ g < w.heap.size ∧ w.cell? ⟨g, o + i, none⟩ = some (.string ⟨l[i].toArray⟩)
theorem StS.of_bl {w w' : World} {v : Value} {l : List Nm} (h : StS w v l) (hb : Bl w w') : StS w' v l := by
 obtain ⟨ao, cap, rfl, hc, h⟩ := h; refine ⟨ao, cap, rfl, hc, fun i hi => ?_⟩; obtain ⟨g, o, h1, h2, h3⟩ := h i hi; exact ⟨g, o, h1, Nat.lt_of_lt_of_le h2 (Below.size hb), (hb.cells.1 g _ h2).trans h3⟩
def abI (nm : Nm) (p : Nm → Bool) (l : List Nm) : Int := match abv nm p l.reverse with | some i => i | none => -1
theorem abI_snoc (nm : Nm) (p : Nm → Bool) (l : List Nm) (x : Nm) : abI nm p (l ++ [x]) = if x = nm then (l.length : Int) else if p x then -1 else abI nm p l := by
 unfold abI; rw [List.reverse_append]; simp only [List.reverse_singleton, List.singleton_append, abv, List.length_reverse]; by_cases h : x = nm
 · rw [if_pos h, if_pos h]
 · rw [if_neg h, if_neg h]; by_cases h2 : p x = true
   · rw [if_pos h2, if_pos h2]
   · rw [if_neg h2, if_neg h2]
theorem above_c (N : Nat) (p : Nm → Bool) (hD : DoN N p) (l : List Nm) (v : Value) (nm : Nm) (hl : l.length ≤ 1099511627776) (w : World) (hA : StS w v l) :
 Calls Tryz.prog 119 #[v, .string ⟨nm.toArray⟩, .func (.func N) #[] #[]] w fun e w' => e = .returned (.int .i64 (abI nm p l)) ∧ w = w' := by
 obtain ⟨ao, cap, rfl, hc, hA⟩ := hA; have hcf := hD.cf; have HD := Lib.hid hD.go; clear hD; go_enter Tryz.func119, Tryz.ntmps119; go_wp2; go_loop [7] (fun i => ∃ k : Int, -1 ≤ k ∧ k < l.length ∧ i = .int .i64 k ∧ Hid (abI nm p l = abI nm p (l.take (k + 1).toNat))) (fun i => (intOf i + 1).toNat); case atStart => exact ⟨(l.length : Int) - 1, by omega, by omega, rfl, Lib.hid (by rw [show ((l.length : Int) - 1 + 1).toNat = l.length by omega, List.take_length])⟩
 case round =>
  obtain ⟨k, hk1, hk2, rfl, HP⟩ := hrel; by_cases h0 : 0 ≤ k
  · obtain ⟨j, rfl⟩ : ∃ j : Nat, k = (j : Int) := ⟨k.toNat, by omega⟩; have hj : j < l.length := by omega
    obtain ⟨g, o, rfl, hg, h1⟩ := hA j hj; have HE := Lib.hid (show abI nm p l = if l[j] = nm then (j : Int) else if p l[j] then -1 else abI nm p (l.take j) by
     rw [HP.out, show ((j : Int) + 1).toNat = j + 1 by omega, take_snoc l j hj, abI_snoc, List.length_take, Nat.min_eq_left (by omega)])
    clear hA HP hk1; by_cases he : l[j] = nm
    · have HF := Lib.hid (show abI nm p l = j by rw [HE.out, if_pos he]); have he' : (l[j] == nm) = true := by simpa using he
      clear he; go_wp2; go_ret; exact ⟨ret_int HF.out.symm, rfl⟩
    · have HF := Lib.hid (show abI nm p l = if p l[j] then -1 else abI nm p (l.take j) by rw [HE.out, if_neg he]); have he' : (l[j] == nm) = false := by simpa using he
      have HG := Lib.hid (HD.out l[j] w); clear he; cases hp : p l[j]
      · have HI := Lib.hid (show abI nm p l = abI nm p (l.take j) by rw [HF.out, hp]; rfl); rw [hp] at HG; clear hp; go_wp2_with (with_reducible refine HG.out.mono ?_; rintro e w' ⟨rfl, rfl⟩); go_round; case rel => exact ⟨(j : Int) - 1, by omega, by omega, rfl, Lib.hid (by rw [HI.out, show ((j : Int) - 1 + 1).toNat = j by omega])⟩
        case measure => simp [intOf] <;> omega
      · have HI := Lib.hid (show abI nm p l = -1 by rw [HF.out, hp]; rfl); rw [hp] at HG; clear hp; go_wp2_with (with_reducible refine HG.out.mono ?_; rintro e w' ⟨rfl, rfl⟩); go_ret; exact ⟨ret_int HI.out.symm, rfl⟩
  · have HF := Lib.hid (show abI nm p l = -1 by rw [HP.out, show (k + 1).toNat = 0 by omega]; rfl); clear hA HP; go_wp2; go_ret; exact ⟨ret_int HF.out.symm, rfl⟩
def Apt (a c : Value) : Prop := ∀ k, a.ownBlock = some k → c.ownBlock ≠ some k
abbrev Oent := (Nm × List Atr) × Value
def opV (l : List Oent) : List Value := l.flatMap fun p => [.string ⟨p.1.1.toArray⟩, p.2, .string ⟨#[]⟩, .slice none 0 0]
theorem opV_snoc (l : List Oent) (p : Oent) : opV (l ++ [p]) = opV l ++ [.string ⟨p.1.1.toArray⟩, p.2, .string ⟨#[]⟩, .slice none 0 0] := by simp [opV]
theorem opV_len (l : List Oent) : (opV l).length = l.length * 4 := by
 induction l with
 | nil => rfl
 | cons a l ih => simp only [opV, List.flatMap_cons, List.length_append, List.length_cons, List.length_nil] at *; omega
theorem opV_get : ∀ (l : List Oent) (i : Nat) (h : i < l.length), (opV l)[i * 4]? = some (.string ⟨l[i].1.1.toArray⟩) ∧ (opV l)[i * 4 + 1]? = some l[i].2 ∧ (opV l)[i * 4 + 2]? = some (.string ⟨#[]⟩) ∧ (opV l)[i * 4 + 3]? = some (.slice none 0 0) := by
 intro l; induction l with
 | nil => intro i h; simp at h
 | cons a l ih =>
   intro i h; cases i with
   | zero => simp [opV]
   | succ i =>
     have := ih i (by simpa using h); have e : (i + 1) * 4 = i * 4 + 1 + 1 + 1 + 1 := by omega
     rw [e]; simp only [opV, List.flatMap_cons, List.cons_append, List.nil_append, List.getElem?_cons_succ, List.getElem_cons_succ] at *; exact this
structure BdR (w : World) (base b : Nat) (P : Nat → Prop) (li : List (List Nd)) (x : List Nd) (op : List (Nm × List Atr)) (gn cn : Nat) (vo : Value) (lv : List Value) (v : Value) (oe : List Oent) : Prop where
 blk : w.heap[b]? = some (.cells #[.slice (some ⟨gn, 0, none⟩) (lv.length + 1) cn, vo] 106 (0, 0))
 nod : w.ownsRow base 53 1 (.slice (some ⟨gn, 0, none⟩) (lv.length + 1) cn) (lv.length + 1) (lv ++ [v])
 len : lv.length = li.length
 lvl : ∀ i (h : i < lv.length) (h' : i < li.length), ∃ ents, NdO w base P lv[i] li[i] ents
 top : ∃ ents, NdO w base P v x ents
 opn : w.ownsRow base 76 4 vo oe.length (opV oe)
 oeq : oe.map (·.1) = op
 oat : ∀ p ∈ oe, AtP w P p.2 p.1.2
 dis : (vo :: lv).Pairwise Apt
 dit : ∀ a ∈ vo :: lv, Apt a v
 nPb : ¬ P b
 nPn : ¬ P gn
 nPo : ∀ k, vo.ownBlock = some k → ¬ P k
 Pl : ∀ k, P k → k < w.heap.size
 bas : base ≤ b
theorem own_ty {w : World} {base : Nat} {e t : TypeId} {size n k : Nat} {v : Value} {xs : List Value} {c : Array Value} (h : w.ownsRow base e size v n xs) (hk : w.heap[k]? = some (.cells c t (0, 0))) (ht : e ≠ t) : v.ownBlock ≠ some k := by
 rcases h.2 with ⟨rfl, _⟩ | ⟨g, cap, cur, rfl, _, hg, _⟩
 · simp [Value.ownBlock]
 · simp only [Value.ownBlock, ne_eq, Option.some.injEq]; rintro rfl; rw [hg] at hk; exact ht ((Obj.cells.inj (Option.some.inj hk)).2.1)
theorem own_row {w : World} {base : Nat} {e : TypeId} {size n : Nat} {v : Value} {xs : List Value} (h : w.ownsRow base e size v n xs) {k : Nat} (hk : v.ownBlock = some k) : ∃ c, w.heap[k]? = some (.cells c e (0, 0)) := by
 rcases h.2 with ⟨rfl, _⟩ | ⟨g, cap, cur, rfl, _, hg, _⟩
 · simp [Value.ownBlock] at hk
 · simp only [Value.ownBlock, Option.some.injEq] at hk; subst hk; exact ⟨_, hg⟩
theorem own_same {w w' : World} {base : Nat} {e : TypeId} {size n : Nat} {v : Value} {xs : List Value} (h : w.ownsRow base e size v n xs) (hs : ∀ k, v.ownBlock = some k → w'.heap[k]? = w.heap[k]?) : w'.ownsRow base e size v n xs := by
 refine ⟨h.1, ?_⟩; rcases h.2 with hn | ⟨g, cap, cur, rfl, hg, hgg, rest⟩
 · exact .inl hn
 · exact .inr ⟨g, cap, cur, rfl, hg, (hs g rfl).trans hgg, rest⟩
section
variable {w w1 : World} {base b : Nat} {P : Nat → Prop} {li : List (List Nd)} {x : List Nd} {op : List (Nm × List Atr)} {gn cn : Nat} {vo v : Value} {lv : List Value} {oe : List Oent}
theorem BdR.gnlt (h : BdR w base b P li x op gn cn vo lv v oe) : base ≤ gn ∧ gn < w.heap.size := World.ownsRow.lt h.nod gn rfl
theorem BdR.blt (h : BdR w base b P li x op gn cn vo lv v oe) : b < w.heap.size := (Array.getElem?_eq_some_iff.1 h.blk).1
theorem BdR.bgn (h : BdR w base b P li x op gn cn vo lv v oe) : gn ≠ b := fun e => own_ty h.nod h.blk (by decide) (by rw [e]; rfl)
theorem BdR.still (h : BdR w base b P li x op gn cn vo lv v oe) (hs : w.heap.size ≤ w1.heap.size) (hf : ∀ k, k < w.heap.size → w1.heap[k]? = w.heap[k]?) : BdR w1 base b P li x op gn cn vo lv v oe := by
 have hS : ∀ Q : Nat → Prop, Still Q w w1 := fun Q => ⟨hs, fun k hk _ => hf k hk⟩
 refine ⟨(hf b h.blt).trans h.blk, own_same h.nod fun k hk => hf k (World.ownsRow.lt h.nod k hk).2, h.len, fun i hi hi' => ?_, ?_, own_same h.opn fun k hk => hf k (World.ownsRow.lt h.opn k hk).2, h.oeq, fun p hp => (h.oat p hp).still (hS _), h.dis, h.dit, h.nPb, h.nPn, h.nPo, fun k hk => Nat.lt_of_lt_of_le (h.Pl k hk) hs, h.bas⟩
 · obtain ⟨e, he⟩ := h.lvl i hi hi'; exact ⟨e, he.still (hS _)⟩
 · obtain ⟨e, he⟩ := h.top; exact ⟨e, he.still (hS _)⟩
theorem BdR.of_bl (h : BdR w base b P li x op gn cn vo lv v oe) (hb : Bl w w1) : BdR w1 base b P li x op gn cn vo lv v oe := h.still (Below.size hb) fun k hk => Below.block hb k hk
theorem BdR.more (h : BdR w base b P li x op gn cn vo lv v oe) (hb : Bl w w1) : BdR w1 base b (fun k => P k ∨ (w.heap.size ≤ k ∧ k < w1.heap.size)) li x op gn cn vo lv v oe := by
 have h1 := h.of_bl hb; have hs := Below.size hb; have up : ∀ (u : Value) (y : List Nd) (e : List Nent), NdO w base P u y e → NdO w1 base P u y e → NdO w1 base (fun k => P k ∨ (w.heap.size ≤ k ∧ k < w1.heap.size)) u y e := by
  intro u y e h0 h1; refine h1.mono (fun k hk => .inl hk) fun k hk hq => ?_
  rcases hq with hq | hq
  · exact h1.low k hk hq
  · have := (h0.lt k hk).2; omega
 refine ⟨h1.blk, h1.nod, h1.len, fun i hi hi' => ?_, ?_, h1.opn, h1.oeq, fun p hp => (h1.oat p hp).mono fun k hk => .inl hk, h1.dis, h1.dit, ?_, ?_, ?_, ?_, h1.bas⟩
 · obtain ⟨e, he⟩ := h.lvl i hi hi'; exact ⟨e, up _ _ _ he (he.of_bl hb)⟩
 · obtain ⟨e, he⟩ := h.top; exact ⟨e, up _ _ _ he (he.of_bl hb)⟩
 · rintro (hq | hq)
   · exact h.nPb hq
   · have := h.blt; omega
 · rintro (hq | hq)
   · exact h.nPn hq
   · have := h.gnlt; omega
 · rintro k hk (hq | hq)
   · exact h.nPo k hk hq
   · have := (World.ownsRow.lt h.opn k hk).2; omega
 · rintro k (hq | hq)
   · exact h1.Pl k hq
   · exact hq.2
theorem BdR.top0 (h : BdR w base b P li x op gn cn vo lv v oe) {x1 : List Nd} {v1 : Value} {e1 : List Nent} (_hN : NdO w1 base P v1 x1 e1) (hs : w.heap.size ≤ w1.heap.size)
 (hf : ∀ k, k < w.heap.size → v.ownBlock ≠ some k → w1.heap[k]? = w.heap[k]?) (hv : v1.ownBlock = v.ownBlock ∨ ∃ k, v1.ownBlock = some k ∧ w.heap.size ≤ k) :
 w1.heap[b]? = some (.cells #[.slice (some ⟨gn, 0, none⟩) (lv.length + 1) cn, vo] 106 (0, 0)) ∧ w1.ownsRow base 53 1 (.slice (some ⟨gn, 0, none⟩) (lv.length + 1) cn) (lv.length + 1) (lv ++ [v]) ∧
 (∀ i (h : i < lv.length) (h' : i < li.length), ∃ ents, NdO w1 base P lv[i] li[i] ents) ∧ w1.ownsRow base 76 4 vo oe.length (opV oe) ∧ (∀ p ∈ oe, AtP w1 P p.2 p.1.2) ∧ (∀ a ∈ vo :: lv, Apt a v1) := by
 obtain ⟨e0, h0⟩ := h.top; have hvb : v.ownBlock ≠ some b := own_ty h0.row h.blk (by decide); have hvn : v.ownBlock ≠ some gn := by
  obtain ⟨c, hc⟩ := own_row h.nod (k := gn) rfl; exact own_ty h0.row hc (by decide)
 have hP : Still P w w1 := ⟨hs, fun k hk hp => hf k hk fun e => h0.low k e hp⟩; have apt : ∀ a ∈ vo :: lv, ∀ k, a.ownBlock = some k → v.ownBlock ≠ some k := fun a ha k hk => h.dit a ha k hk
 refine ⟨(hf b h.blt hvb).trans h.blk, own_same h.nod fun k hk => ?_, fun i hi hi' => ?_, own_same h.opn fun k hk => hf k (World.ownsRow.lt h.opn k hk).2 (apt vo (by simp) k hk), fun p hp => (h.oat p hp).still hP, fun a ha k hk => ?_⟩
 · simp only [Value.ownBlock, Option.some.injEq] at hk; subst hk; exact hf _ h.gnlt.2 hvn
 · obtain ⟨e, he⟩ := h.lvl i hi hi'; refine ⟨e, he.still ⟨hs, fun k hk hq => ?_⟩⟩; rcases hq with hq | hq
   · exact hP.block k hk hq
   · exact hf k hk (apt lv[i] (by simp) k hq)
 · rcases hv with e | ⟨j, e, hj⟩
   · rw [e]; exact apt a ha k hk
   · rw [e]; simp only [ne_eq, Option.some.injEq]; rintro rfl; have hlt : j < w.heap.size := by
      rcases List.mem_cons.1 ha with rfl | ha
      · exact (World.ownsRow.lt h.opn j hk).2
      · obtain ⟨i, hi, rfl⟩ := List.mem_iff_getElem.1 ha; obtain ⟨e, he⟩ := h.lvl i hi (by rw [← h.len]; exact hi); exact (he.lt j hk).2
     omega
theorem BdR.topA (h : BdR w base b P li x op gn cn vo lv v oe) {x1 : List Nd} {e1 : List Nent} (hN : NdO w1 base P v x1 e1) (hs : w.heap.size ≤ w1.heap.size)
 (hf : ∀ k, k < w.heap.size → v.ownBlock ≠ some k → w1.heap[k]? = w.heap[k]?) : BdR w1 base b P li x1 op gn cn vo lv v oe := by
 obtain ⟨a1, a2, a3, a4, a5, a6⟩ := h.top0 hN hs hf (.inl rfl); exact ⟨a1, a2, h.len, a3, ⟨e1, hN⟩, a4, h.oeq, a5, h.dis, a6, h.nPb, h.nPn, h.nPo, fun k hk => Nat.lt_of_lt_of_le (h.Pl k hk) hs, h.bas⟩
theorem set_last (l : List Value) (a c : Value) : (l ++ [a]).set l.length c = l ++ [c] := by simp
theorem BdR.topB (h : BdR w base b P li x op gn cn vo lv v oe) {x1 : List Nd} {v1 : Value} {e1 : List Nent} (hN : NdO w1 base P v1 x1 e1) (hs : w.heap.size ≤ w1.heap.size)
 (hf : ∀ k, k < w.heap.size → v.ownBlock ≠ some k → w1.heap[k]? = w.heap[k]?) (hv : v1.ownBlock = v.ownBlock ∨ ∃ k, v1.ownBlock = some k ∧ w.heap.size ≤ k) :
 BdR (w1.setCell ⟨gn, lv.length, none⟩ v1) base b P li x1 op gn cn vo lv v1 oe := by
 obtain ⟨a1, a2, a3, a4, a5, a6⟩ := h.top0 hN hs hf hv; obtain ⟨s1, s2⟩ := World.ownsRow.stored a2 lv.length v1; rw [set_last] at s1; obtain ⟨c, hc⟩ := own_row a2 (k := gn) rfl; have hS : Still (fun k => k ≠ gn) w1 (w1.setCell ⟨gn, lv.length, none⟩ v1) := Still.set _ _ _ _ (by simp); have no : ∀ {e : TypeId} {sz n : Nat} {u : Value} {ys : List Value}, w1.ownsRow base e sz u n ys → e ≠ 53 → ∀ k, u.ownBlock = some k → k ≠ gn := fun ho he k hk e => own_ty ho hc he (by rw [hk, e])
 have hP : Still P w1 (w1.setCell ⟨gn, lv.length, none⟩ v1) := hS.mono fun k hk e => h.nPn (e ▸ hk)
 have up : ∀ {u : Value} {y : List Nd} {e : List Nent}, NdO w1 base P u y e → NdO (w1.setCell ⟨gn, lv.length, none⟩ v1) base P u y e := fun hu => hu.still (hS.mono fun k hk => by
  rcases hk with hk | hk
  · exact fun e => h.nPn (e ▸ hk)
  · exact no hu.row (by decide) k hk)
 have hb1 : b < w1.heap.size := (Array.getElem?_eq_some_iff.1 a1).1; refine ⟨(hS.block b hb1 (Ne.symm h.bgn)).trans a1, s1, h.len, fun i hi hi' => ?_, ⟨e1, up hN⟩, own_same a4 fun k hk => hS.block k (World.ownsRow.lt a4 k hk).2 (no a4 (by decide) k hk), h.oeq, fun p hp => (a5 p hp).still hP, h.dis, a6, h.nPb, h.nPn, h.nPo, fun k hk => Nat.lt_of_lt_of_le (h.Pl k hk) (Nat.le_trans hs (by simp)), h.bas⟩; obtain ⟨e, he⟩ := a3 i hi hi'; exact ⟨e, up he⟩
end
theorem own_pre {w : World} {base : Nat} {e : TypeId} {sz n m g cap : Nat} {xs ys : List Value} (h : w.ownsRow base e sz (.slice (some ⟨g, 0, none⟩) m cap) m (xs ++ ys)) (hx : xs.length = n * sz) (hn : n ≤ m) : w.ownsRow base e sz (.slice (some ⟨g, 0, none⟩) n cap) n xs := by
 rcases h.2 with ⟨h', _⟩ | ⟨g', cap', cur, h', hb, hg, hnc, hcm, hcs, htake⟩
 · simp at h'
 · simp only [Value.slice.injEq, Option.some.injEq, Addr.mk.injEq, and_true, true_and] at h'; obtain ⟨rfl, rfl⟩ := h'; refine ⟨hx, .inr ⟨g, cap, cur, rfl, hb, hg, by omega, hcm, hcs, ?_⟩⟩; have : (cur.toList.take (m * sz)).take (n * sz) = xs := by rw [htake, ← hx, List.take_left]
   rw [List.take_take, Nat.min_eq_left (Nat.mul_le_mul_right _ hn)] at this; exact this
theorem own_some {w : World} {base : Nat} {e : TypeId} {sz n : Nat} {v : Value} {xs : List Value} (h : w.ownsRow base e sz v (n + 1) xs) : ∃ g c, v = .slice (some ⟨g, 0, none⟩) (n + 1) c ∧ n + 1 ≤ c := by
 rcases h.2 with ⟨_, h0⟩ | ⟨g, cap, cur, rfl, _, _, hc, _⟩
 · omega
 · exact ⟨g, cap, rfl, hc⟩
theorem Grew.blk {w w' : World} {v v' : Value} (h : Grew w w' v v') : v'.ownBlock = v.ownBlock ∨ ∃ k, v'.ownBlock = some k ∧ w.heap.size ≤ k := by
 rcases h with ⟨e, _⟩ | ⟨_, h⟩
 · exact .inl e
 · exact .inr h
theorem Grew.size {w w' : World} {v v' : Value} (h : Grew w w' v v') : w.heap.size ≤ w'.heap.size := by
 rcases h with ⟨_, h⟩ | ⟨h, _⟩ <;> exact h.size
theorem Grew.other {w w' : World} {v v' : Value} (h : Grew w w' v v') : ∀ k, k < w.heap.size → v.ownBlock ≠ some k → w'.heap[k]? = w.heap[k]? := by
 intro k hk hn; rcases h with ⟨_, h⟩ | ⟨h, _⟩
 · exact h.block k hk (Ne.symm hn)
 · exact h.block k hk (by simp)
theorem heap_b0 {w : World} {b : Nat} {a c : Value} {t : TypeId} (h : w.heap[b]? = some (.cells #[a, c] t (0, 0))) (u : Value) : (w.setCell ⟨b, 0, none⟩ u).heap[b]? = some (.cells #[u, c] t (0, 0)) := by
 simp [World.setCell, h, Array.getElem?_modify]
theorem heap_b1 {w : World} {b : Nat} {a c : Value} {t : TypeId} (h : w.heap[b]? = some (.cells #[a, c] t (0, 0))) (u : Value) : (w.setCell ⟨b, 1, none⟩ u).heap[b]? = some (.cells #[a, u] t (0, 0)) := by
 simp [World.setCell, h, Array.getElem?_modify]
section
variable {w w1 : World} {base b : Nat} {P : Nat → Prop} {li : List (List Nd)} {x : List Nd} {op : List (Nm × List Atr)} {gn cn : Nat} {vo v : Value} {lv : List Value} {oe : List Oent}
theorem BdR.open1 (h : BdR w base b P li x op gn cn vo lv v oe) {vo1 : Value} {p : Oent} (hO : w1.ownsRow base 76 4 vo1 (oe.length + 1) (opV (oe ++ [p]))) (hs : w.heap.size ≤ w1.heap.size)
 (hf : ∀ k, k < w.heap.size → vo.ownBlock ≠ some k → w1.heap[k]? = w.heap[k]?) (hv : vo1.ownBlock = vo.ownBlock ∨ ∃ k, vo1.ownBlock = some k ∧ w.heap.size ≤ k) (hp : AtP w P p.2 p.1.2) :
 BdR (w1.setCell ⟨b, 1, none⟩ vo1) base b P li x (op ++ [p.1]) gn cn vo1 lv v (oe ++ [p]) := by
 have hvb : vo.ownBlock ≠ some b := own_ty h.opn h.blk (by decide); have hvn : vo.ownBlock ≠ some gn := by
  obtain ⟨c, hc⟩ := own_row h.nod (k := gn) rfl; exact own_ty h.opn hc (by decide)
 have hb1 : w1.heap[b]? = _ := (hf b h.blt hvb).trans h.blk; have hS1 : Still (fun k => vo.ownBlock ≠ some k) w w1 := ⟨hs, fun k hk hq => hf k hk hq⟩; have hS2 : Still (fun k => k ≠ b) w1 (w1.setCell ⟨b, 1, none⟩ vo1) := Still.set _ _ _ _ (by simp); have hS : Still (fun k => vo.ownBlock ≠ some k ∧ k ≠ b) w (w1.setCell ⟨b, 1, none⟩ vo1) := (hS1.mono fun k hk => hk.1).trans (hS2.mono fun k hk => hk.2); have hP : Still P w (w1.setCell ⟨b, 1, none⟩ vo1) := hS.mono fun k hk => ⟨fun e => h.nPo k e hk, fun e => h.nPb (e ▸ hk)⟩
 have no : ∀ {u : Value} {y : List Nd} {e : List Nent}, Apt vo u → NdO w base P u y e → NdO (w1.setCell ⟨b, 1, none⟩ vo1) base P u y e := fun ha hu => hu.still (hS.mono fun k hk => by
  rcases hk with hk | hk
  · exact ⟨fun e => h.nPo k e hk, fun e => h.nPb (e ▸ hk)⟩
  · exact ⟨fun e => ha k e hk, fun e => own_ty hu.row h.blk (by decide) (e ▸ hk)⟩)
 have hd := List.pairwise_cons.1 h.dis; have hfr : ∀ (u : Value), u ∈ v :: lv → Apt vo1 u := by
  intro u hu k hk; rcases hv with e | ⟨j, e, hj⟩
  · rw [e] at hk; rcases List.mem_cons.1 hu with rfl | hu
    · exact h.dit vo (by simp) k hk
    · exact hd.1 u hu k hk
  · rw [e] at hk; obtain rfl : j = k := Option.some.inj hk; intro he; have : j < w.heap.size := by
     rcases List.mem_cons.1 hu with rfl | hu
     · obtain ⟨e0, h0⟩ := h.top; exact (h0.lt j he).2
     · obtain ⟨i, hi, rfl⟩ := List.mem_iff_getElem.1 hu; obtain ⟨e0, h0⟩ := h.lvl i hi (by rw [← h.len]; exact hi); exact (h0.lt j he).2
    omega
 refine ⟨heap_b1 hb1 vo1, own_same h.nod fun k hk => ?_, h.len, fun i hi hi' => ?_, ?_, ?_, by simp [h.oeq], fun q hq => ?_, List.pairwise_cons.2 ⟨fun a ha => hfr a (by simp [ha]), hd.2⟩, fun a ha => ?_, h.nPb, h.nPn, fun k hk hq => ?_, fun k hk => Nat.lt_of_lt_of_le (h.Pl k hk) (Nat.le_trans hs (by simp)), h.bas⟩
 · simp only [Value.ownBlock, Option.some.injEq] at hk; subst hk; exact hS.block _ h.gnlt.2 ⟨hvn, h.bgn⟩
 · obtain ⟨e, he⟩ := h.lvl i hi hi'; exact ⟨e, no (hd.1 _ (List.getElem_mem hi)) he⟩
 · obtain ⟨e, he⟩ := h.top; exact ⟨e, no (h.dit vo (by simp)) he⟩
 · rw [List.length_append]; exact own_same hO fun k hk => hS2.block k (World.ownsRow.lt hO k hk).2 fun e => own_ty hO hb1 (by decide) (e ▸ hk)
 · rcases List.mem_append.1 hq with hq | hq
   · exact (h.oat q hq).still hP
   · rw [List.mem_singleton] at hq; subst hq; exact hp.still hP
 · rcases List.mem_cons.1 ha with rfl | ha
   · exact hfr v (by simp)
   · exact h.dit a (by simp [ha])
 · rcases hv with e | ⟨j, e, hj⟩
   · rw [e] at hk; exact h.nPo k hk hq
   · rw [e] at hk; obtain rfl : j = k := Option.some.inj hk; have := h.Pl _ hq; omega
theorem BdR.level (h : BdR w base b P li x op gn cn vo lv v oe) {gn1 cn1 : Nat} (hO : w1.ownsRow base 53 1 (.slice (some ⟨gn1, 0, none⟩) (lv.length + 1 + 1) cn1) (lv.length + 1 + 1) (lv ++ [v] ++ [.slice none 0 0])) (hs : w.heap.size ≤ w1.heap.size)
 (hf : ∀ k, k < w.heap.size → k ≠ gn → w1.heap[k]? = w.heap[k]?) (hv : gn1 = gn ∨ w.heap.size ≤ gn1) :
 BdR (w1.setCell ⟨b, 0, none⟩ (.slice (some ⟨gn1, 0, none⟩) (lv.length + 1 + 1) cn1)) base b P (li ++ [x]) [] op gn1 cn1 vo (lv ++ [v]) (.slice none 0 0) oe := by
 obtain ⟨c, hc⟩ := own_row h.nod (k := gn) rfl; have hb1 : w1.heap[b]? = _ := (hf b h.blt (Ne.symm h.bgn)).trans h.blk; have hS1 : Still (fun k => k ≠ gn) w w1 := ⟨hs, fun k hk hq => hf k hk hq⟩; have hS2 : Still (fun k => k ≠ b) w1 (w1.setCell ⟨b, 0, none⟩ (.slice (some ⟨gn1, 0, none⟩) (lv.length + 1 + 1) cn1)) := Still.set _ _ _ _ (by simp); have hS : Still (fun k => k ≠ gn ∧ k ≠ b) w (w1.setCell ⟨b, 0, none⟩ (.slice (some ⟨gn1, 0, none⟩) (lv.length + 1 + 1) cn1)) := (hS1.mono fun k hk => hk.1).trans (hS2.mono fun k hk => hk.2); have hP : Still P w (w1.setCell ⟨b, 0, none⟩ (.slice (some ⟨gn1, 0, none⟩) (lv.length + 1 + 1) cn1)) := hS.mono fun k hk => ⟨fun e => h.nPn (e ▸ hk), fun e => h.nPb (e ▸ hk)⟩
 have no : ∀ {u : Value} {y : List Nd} {e : List Nent}, NdO w base P u y e → NdO (w1.setCell ⟨b, 0, none⟩ (.slice (some ⟨gn1, 0, none⟩) (lv.length + 1 + 1) cn1)) base P u y e := fun hu => hu.still (hS.mono fun k hk => by
  rcases hk with hk | hk
  · exact ⟨fun e => h.nPn (e ▸ hk), fun e => h.nPb (e ▸ hk)⟩
  · exact ⟨fun e => own_ty hu.row hc (by decide) (e ▸ hk), fun e => own_ty hu.row h.blk (by decide) (e ▸ hk)⟩)
 have hd := List.pairwise_cons.1 h.dis; refine ⟨by rw [List.length_append]; exact heap_b0 hb1 _, ?_, by simp [h.len], fun i hi hi' => ?_, ⟨[], NdO.nil _ _ _⟩, own_same h.opn fun k hk => hS.block k (World.ownsRow.lt h.opn k hk).2 ⟨fun e => own_ty h.opn hc (by decide) (e ▸ hk), fun e => own_ty h.opn h.blk (by decide) (e ▸ hk)⟩, h.oeq, fun q hq => (h.oat q hq).still hP, ?_, fun a _ k _ e => by simp [Value.ownBlock] at e, h.nPb, ?_, h.nPo, fun k hk => Nat.lt_of_lt_of_le (h.Pl k hk) (Nat.le_trans hs (by simp)), h.bas⟩
 · rw [List.length_append]; exact own_same hO fun k hk => hS2.block k (World.ownsRow.lt hO k hk).2 fun e => own_ty hO hb1 (by decide) (e ▸ hk)
 · by_cases hlt : i < lv.length
   · obtain ⟨e, he⟩ := h.lvl i hlt (by rw [← h.len]; exact hlt); refine ⟨e, ?_⟩; rw [List.getElem_append_left hlt, List.getElem_append_left (by rw [← h.len]; exact hlt)]; exact no he
   · have : i = lv.length := by simp only [List.length_append, List.length_singleton] at hi; omega
     subst this; obtain ⟨e, he⟩ := h.top; refine ⟨e, ?_⟩; have e1 : (lv ++ [v])[lv.length]'(by simp) = v := by simp
     have e2 : (li ++ [x])[lv.length]'(by simp [h.len]) = x := by simp [h.len]
     rw [e1, e2]; exact no he
 · rw [← List.cons_append]; exact List.pairwise_append.2 ⟨h.dis, by simp, fun a ha c hc => by rw [List.mem_singleton] at hc; subst hc; exact h.dit a ha⟩
 · rcases hv with rfl | hj
   · exact h.nPn
   · intro hq; have := h.Pl _ hq; omega
theorem BdR.drop {y : List Nd} {u : Value} {p : Oent} {go co : Nat} (h : BdR w base b P (li ++ [y]) x (op ++ [p.1]) gn cn (.slice (some ⟨go, 0, none⟩) (oe.length + 1) co) (lv ++ [u]) v (oe ++ [p])) :
 BdR ((w.setCell ⟨b, 1, none⟩ (.slice (some ⟨go, 0, none⟩) oe.length co)).setCell ⟨b, 0, none⟩ (.slice (some ⟨gn, 0, none⟩) (lv.length + 1) cn)) base b (fun k => P k ∨ v.ownBlock = some k) li y op gn cn (.slice (some ⟨go, 0, none⟩) oe.length co) lv u oe ∧
  AtP ((w.setCell ⟨b, 1, none⟩ (.slice (some ⟨go, 0, none⟩) oe.length co)).setCell ⟨b, 0, none⟩ (.slice (some ⟨gn, 0, none⟩) (lv.length + 1) cn)) (fun k => P k ∨ v.ownBlock = some k) p.2 p.1.2 ∧
  NdS ((w.setCell ⟨b, 1, none⟩ (.slice (some ⟨go, 0, none⟩) oe.length co)).setCell ⟨b, 0, none⟩ (.slice (some ⟨gn, 0, none⟩) (lv.length + 1) cn)) (fun k => P k ∨ v.ownBlock = some k) v x := by
 obtain ⟨e0, h0⟩ := h.top; obtain ⟨cN, hcN⟩ := own_row h.nod (k := gn) rfl; have hvb : v.ownBlock ≠ some b := own_ty h0.row h.blk (by decide); have hvn : v.ownBlock ≠ some gn := own_ty h0.row hcN (by decide); obtain ⟨W, hW⟩ : ∃ W, W = (w.setCell ⟨b, 1, none⟩ (.slice (some ⟨go, 0, none⟩) oe.length co)).setCell ⟨b, 0, none⟩ (.slice (some ⟨gn, 0, none⟩) (lv.length + 1) cn) := ⟨_, rfl⟩; have hS : Still (fun k => k ≠ b) w W := by rw [hW]; exact (Still.set _ _ _ _ (by simp)).trans (Still.set _ _ _ _ (by simp))
 have hblk : W.heap[b]? = some (.cells #[.slice (some ⟨gn, 0, none⟩) (lv.length + 1) cn, .slice (some ⟨go, 0, none⟩) oe.length co] 106 (0, 0)) := by
  rw [hW]; exact heap_b0 (heap_b1 h.blk _) _
 have hsz : W.heap.size = w.heap.size := by rw [hW]; simp
 rw [← hW]; clear hW; have hP : Still P w W := hS.mono fun k hk e => h.nPb (e ▸ hk)
 have hPQ : ∀ k, P k → P k ∨ v.ownBlock = some k := fun k hk => .inl hk
 have no : ∀ {u : Value} {z : List Nd} {e : List Nent}, Apt u v → NdO w base P u z e → NdO W base (fun k => P k ∨ v.ownBlock = some k) u z e := fun {u z e} ha hu => by
  have : NdO W base P u z e := hu.still (hS.mono fun k hk => by
   rcases hk with hk | hk
   · exact fun e => h.nPb (e ▸ hk)
   · exact fun e => own_ty hu.row h.blk (by decide) (e ▸ hk))
  refine this.mono hPQ fun k hk hq => ?_
  rcases hq with hq | hq
  · exact this.low k hk hq
  · exact ha k hk hq
 have hl1 : lv.length = li.length := by have := h.len; simpa using this
 have hol : (oe ++ [p]).length = oe.length + 1 := by simp
 have hop := h.opn; rw [hol, opV_snoc] at hop; have hno := h.nod; rw [show (lv ++ [u]).length = lv.length + 1 by simp] at hno; have hd := List.pairwise_cons.1 h.dis; have hd2 := List.pairwise_append.1 hd.2; refine ⟨⟨hblk, ?_, hl1, fun i hi hi' => ?_, ?_, ?_, ?_, fun q hq => ((h.oat q (by simp [hq])).still hP).mono hPQ, ?_, ?_, ?_, ?_, ?_, ?_, h.bas⟩, ((h.oat p (by simp)).still hP).mono hPQ, ?_⟩
 · exact own_same (own_pre hno (by simp) (by omega)) fun k hk => by
    simp only [Value.ownBlock, Option.some.injEq] at hk; subst hk; exact hS.block _ h.gnlt.2 h.bgn
 · obtain ⟨e, he⟩ := h.lvl i (by simp; omega) (by simp; omega); rw [List.getElem_append_left hi, List.getElem_append_left hi'] at he; exact ⟨e, no (h.dit _ (by simp [List.getElem_mem hi])) he⟩
 · obtain ⟨e, he⟩ := h.lvl lv.length (by simp) (by simp; omega); have e1 : (lv ++ [u])[lv.length]'(by simp) = u := by simp
   have e2 : (li ++ [y])[lv.length]'(by simp; omega) = y := by simp [hl1]
   rw [e1, e2] at he; exact ⟨e, no (h.dit _ (by simp)) he⟩
 · exact own_same (own_pre hop (opV_len oe) (by omega)) fun k hk => by
    have hk' : Value.ownBlock (.slice (some ⟨go, 0, none⟩) (oe.length + 1) co) = some k := hk; exact hS.block k (World.ownsRow.lt h.opn k hk').2 fun e => own_ty h.opn h.blk (by decide) (e ▸ hk')
 · have := h.oeq; rw [List.map_append, List.map_singleton] at this; exact (List.append_inj' this rfl).1
 · refine List.pairwise_cons.2 ⟨fun a ha k hk => hd.1 a (by simp [ha]) k hk, hd2.1⟩
 · intro a ha; rcases List.mem_cons.1 ha with rfl | ha
   · exact fun k hk => hd.1 u (by simp) k hk
   · exact hd2.2.2 a ha u (by simp)
 · rintro (hq | hq)
   · exact h.nPb hq
   · exact hvb hq
 · rintro (hq | hq)
   · exact h.nPn hq
   · exact hvn hq
 · rintro k hk (hq | hq)
   · exact h.nPo k hk hq
   · exact h.dit _ (List.mem_cons_self ..) k hk hq
 · rintro k (hq | hq)
   · rw [hsz]; exact h.Pl k hq
   · rw [hsz]; exact (h0.lt k hq).2
 · refine (h0.nds).still (hS.mono fun k hk => ?_); rcases hk with hk | hk
   · exact fun e => h.nPb (e ▸ hk)
   · exact fun e => hvb (e ▸ hk)
end
def lsX (r : List Nd) : List (Nm × List Atr × List Nd) → List Nd
 | [] => r
 | (_, _, k) :: _ => k
def lsI (r : List Nd) : List (Nm × List Atr × List Nd) → List (List Nd)
 | [] => []
 | _ :: f => lsI r f ++ [lsX r f]
def opO : List (Nm × List Atr × List Nd) → List (Nm × List Atr)
 | [] => []
 | (n, a, _) :: f => opO f ++ [(n, a)]
theorem lsI_len (r : List Nd) (f : List (Nm × List Atr × List Nd)) : (lsI r f).length = f.length := by
 induction f with
 | nil => rfl
 | cons c f ih => simp [lsI, ih]
theorem opO_len (f : List (Nm × List Atr × List Nd)) : (opO f).length = f.length := by
 induction f with
 | nil => rfl
 | cons c f ih => obtain ⟨n, a, k⟩ := c; simp [opO, ih]
theorem opO_nms (f : List (Nm × List Atr × List Nd)) : (opO f).map (·.1) = (f.map (·.1)).reverse := by
 induction f with
 | nil => rfl
 | cons c f ih => obtain ⟨n, a, k⟩ := c; simp [opO, ih]
def BdS (w : World) (base b : Nat) (P : Nat → Prop) (s : St) : Prop := ∃ gn cn vo lv v oe, BdR w base b P (lsI s.1 s.2) (lsX s.1 s.2) (opO s.2) gn cn vo lv v oe
theorem BdS.of_bl {w w1 : World} {base b : Nat} {P : Nat → Prop} {s : St} (h : BdS w base b P s) (hb : Bl w w1) : BdS w1 base b P s := by
 obtain ⟨gn, cn, vo, lv, v, oe, h⟩ := h; exact ⟨gn, cn, vo, lv, v, oe, h.of_bl hb⟩
theorem BdS.more {w w1 : World} {base b : Nat} {P : Nat → Prop} {s : St} (h : BdS w base b P s) (hb : Bl w w1) : BdS w1 base b (fun k => P k ∨ (w.heap.size ≤ k ∧ k < w1.heap.size)) s := by
 obtain ⟨gn, cn, vo, lv, v, oe, h⟩ := h; exact ⟨gn, cn, vo, lv, v, oe, h.more hb⟩
theorem put_ls (s : St) (d : Nd) : lsI (put s d).1 (put s d).2 = lsI s.1 s.2 ∧ lsX (put s d).1 (put s d).2 = pt (lsX s.1 s.2) d ∧ opO (put s d).2 = opO s.2 := by
 obtain ⟨r, f⟩ := s; cases f with
 | nil => exact ⟨rfl, rfl, rfl⟩
 | cons c f => obtain ⟨n, a, k⟩ := c; exact ⟨rfl, rfl, rfl⟩
theorem Grew.set {w w1 : World} {v v' : Value} (h : Grew w w1 v v') {g : Nat} (hg : v'.ownBlock = some g) (o : Nat) (u : Value) : Grew w (w1.setCell ⟨g, o, none⟩ u) v v' := by
 have hS : ∀ k, k ≠ g → (w1.setCell ⟨g, o, none⟩ u).heap[k]? = w1.heap[k]? := fun k hk => Below.heap_setCell w1 ⟨g, o, none⟩ u k hk
 have hs : (w1.setCell ⟨g, o, none⟩ u).heap.size = w1.heap.size := by simp
 rcases h with ⟨e, h⟩ | ⟨h, k, e, hk⟩
 · refine .inl ⟨e, ⟨h.os, h.tape, h.output, by rw [hs]; exact h.size, fun j hj hn => ?_⟩⟩; rw [hS j (fun e2 => hn (by rw [← e, hg, e2]))]; exact h.block j hj hn
 · rw [hg] at e; obtain rfl : g = k := Option.some.inj e; refine .inr ⟨⟨h.os, h.tape, h.output, by rw [hs]; exact h.size, fun j hj hn => ?_⟩, g, hg, hk⟩; rw [hS j (by omega)]; exact h.block j hj hn
theorem Grew.of_bl {w w0 w1 : World} {v v' : Value} (h : Grew w0 w1 v v') (hb : Bl w w0) : Grew w w1 v v' := by
 rcases h with ⟨e, h⟩ | ⟨h, k, e, hk⟩
 · exact .inl ⟨e, ⟨h.os.trans (Below.os hb), h.tape.trans (Below.tape hb), h.output.trans (Below.output hb), Nat.le_trans (Below.size hb) h.size, fun j hj hn => (h.block j (Nat.lt_of_lt_of_le hj (Below.size hb)) hn).trans (Below.block hb j hj)⟩⟩
 · exact .inr ⟨⟨h.os.trans (Below.os hb), h.tape.trans (Below.tape hb), h.output.trans (Below.output hb), Nat.le_trans (Below.size hb) h.size, fun j hj hn => (h.block j (Nat.lt_of_lt_of_le hj (Below.size hb)) hn).trans (Below.block hb j hj)⟩, k, e, Nat.le_trans (Below.size hb) hk⟩
theorem Grew.below {w w1 : World} {v v' : Value} (h : Grew w w1 v v') {base : Nat} (hv : ∀ k, v.ownBlock = some k → base ≤ k) (hb : base ≤ w.heap.size) : Below base w w1 := by
 rcases h with ⟨e, h⟩ | ⟨h, _⟩
 · exact ⟨h.os, h.tape, h.output, h.size, fun k hk => h.block k (by omega) (fun e => by have := hv k e.symm; omega)⟩
 · exact ⟨h.os, h.tape, h.output, h.size, fun k hk => h.block k (by omega) (by simp)⟩
theorem list_put4 (xs : List Value) (n : Nat) (a0 a1 a2 a3 b0 b1 b2 b3 : Value) (h : xs.length = n * 4) : ((((xs ++ [a0, a1, a2, a3]).set (n * 4) b0).set (n * 4 + 1) b1).set (n * 4 + 2) b2).set (n * 4 + 3) b3 = xs ++ [b0, b1, b2, b3] := by
 rw [List.set_append_right _ _ (by omega), List.set_append_right _ _ (by omega), List.set_append_right _ _ (by omega), List.set_append_right _ _ (by omega), h, show n * 4 - n * 4 = 0 by omega, show n * 4 + 1 - n * 4 = 1 by omega, show n * 4 + 2 - n * 4 = 2 by omega, show n * 4 + 3 - n * 4 = 3 by omega]; rfl
theorem own_put4 {w : World} {base g n c : Nat} {e : TypeId} {xs : List Value} {a0 a1 a2 a3 : Value} (h : w.ownsRow base e 4 (.slice (some ⟨g, 0, none⟩) (n + 1) c) (n + 1) (xs ++ [a0, a1, a2, a3])) (hx : xs.length = n * 4) (b0 b1 b2 b3 : Value) :
 ((((w.setCell ⟨g, n * 4, none⟩ b0).setCell ⟨g, n * 4 + 1, none⟩ b1).setCell ⟨g, n * 4 + 2, none⟩ b2).setCell ⟨g, n * 4 + 3, none⟩ b3).ownsRow base e 4 (.slice (some ⟨g, 0, none⟩) (n + 1) c) (n + 1) (xs ++ [b0, b1, b2, b3]) := by
 have h1 := (World.ownsRow.stored h (n * 4) b0).1; have h2 := (World.ownsRow.stored h1 (n * 4 + 1) b1).1; have h3 := (World.ownsRow.stored h2 (n * 4 + 2) b2).1; have h4 := (World.ownsRow.stored h3 (n * 4 + 3) b3).1; rw [list_put4 xs n a0 a1 a2 a3 b0 b1 b2 b3 hx] at h4; exact h4
theorem Grew.put4 {w w1 : World} {v v' : Value} (h : Grew w w1 v v') {g : Nat} (hg : v'.ownBlock = some g) (o0 o1 o2 o3 : Nat) (b0 b1 b2 b3 : Value) :
 Grew w ((((w1.setCell ⟨g, o0, none⟩ b0).setCell ⟨g, o1, none⟩ b1).setCell ⟨g, o2, none⟩ b2).setCell ⟨g, o3, none⟩ b3) v v' := (((h.set hg o0 b0).set hg o1 b1).set hg o2 b2).set hg o3 b3
theorem abI_some {nm : Nm} {p : Nm → Bool} {l : List Nm} {i : Nat} (h : abv nm p l.reverse = some i) : abI nm p l = i ∧ i < l.length := by
 refine ⟨by unfold abI; rw [h], ?_⟩; have := abv_lt _ _ _ _ h; simpa using this
theorem abI_none {nm : Nm} {p : Nm → Bool} {l : List Nm} (h : abv nm p l.reverse = none) : abI nm p l = -1 := by unfold abI; rw [h]
theorem StS.take {w : World} {g o c : Nat} {l : List Nm} (h : StS w (.slice (some ⟨g, o, none⟩) l.length c) l) (k : Nat) (hk : k ≤ l.length) : StS w (.slice (some ⟨g, o, none⟩) k c) (l.take k) := by
 obtain ⟨ao, cap, e, hc, h⟩ := h; cases e; have hl : (l.take k).length = k := by simp; omega
 refine ⟨_, _, by rw [hl], by omega, fun i hi => ?_⟩; rw [hl] at hi; obtain ⟨g', o', e, h1, h2⟩ := h i (by omega); cases e; exact ⟨g, o, rfl, h1, by simpa using h2⟩
def stI (l : List Nm) (nm : Nm) : Nat := cls l.reverse nm
theorem rev_take (l : List Nm) (i : Nat) (_h : i ≤ l.length) : (l.take i).reverse = l.reverse.drop (l.length - i) := by
 rw [List.reverse_take]
theorem cls_pl {r : List Nm} {nm : Nm} (hb : blkN nm = false) : cls r nm = r.length := by
 have h : nm ≠ sLi := by rintro rfl; revert hb; decide
 unfold cls cls1; rw [if_neg h, if_neg (by simp [hb])]
theorem cls_bk {r : List Nm} {nm : Nm} (hb : blkN nm = true) (h : nm ≠ sLi) : cls r nm = (abv sP wallN r).getD r.length := by
 unfold cls cls1; rw [if_neg h, if_pos hb]
theorem cls_li {r : List Nm} : cls r sLi = (abv sLi ulolN (r.drop (r.length - (abv sP wallN r).getD r.length))).getD ((abv sP wallN r).getD r.length) := by
 unfold cls cls1; rw [if_pos rfl, if_pos (by decide)]
theorem stays_c (l : List Nm) (v : Value) (nm : Nm) (hl : l.length ≤ 1099511627776) (w : World) (hA : StS w v l) :
 Calls Tryz.prog 116 #[v, .string ⟨nm.toArray⟩] w fun e w' => e = .returned (.int .i64 (stI l nm)) ∧ w = w' := by
 have A1 := fun v l (h : StS w v l) (hl : l.length ≤ 1099511627776) => (show Calls Tryz.prog 119 #[v, .string ⟨#[112]⟩, .func (.func 148) #[] #[]] w (fun e w' => e = .returned (.int .i64 (abI sP wallN l)) ∧ w = w') from above_c _ _ do_wall l v sP hl w h)
 have A2 := fun v l (h : StS w v l) (hl : l.length ≤ 1099511627776) => (show Calls Tryz.prog 119 #[v, .string ⟨#[108, 105]⟩, .func (.func 149) #[] #[]] w (fun e w' => e = .returned (.int .i64 (abI sLi ulolN l)) ∧ w = w') from above_c _ _ do_ulol l v sLi hl w h)
 have BC := block_c nm w; cases hb : blkN nm
 · have HR := Lib.hid (show stI l nm = l.length by unfold stI; rw [cls_pl hb]; simp); have h1 : (nm == [108, 105]) = false := by
    have : nm ≠ sLi := by rintro rfl; revert hb; decide
    simpa [sLi] using this
   rw [hb] at BC; have BC := Lib.hid BC; obtain ⟨ao, cap, rfl, hc, -⟩ := hA; clear hb A1 A2; go_enter Tryz.func116, Tryz.ntmps116; go_wp2_with (go_at_call 147; (with_reducible refine BC.out.mono ?_); rintro e w' ⟨rfl, rfl⟩); go_ret; exact ⟨ret_int (by rw [HR.out]), rfl⟩
 · rw [hb] at BC; have BC := Lib.hid BC; cases e1 : abv sP wallN l.reverse with
   | none =>
     have B1 := A1 v l hA hl; rw [abI_none e1] at B1; have B1 := Lib.hid B1; by_cases hli : nm = sLi
     · subst hli; have h1 : (sLi == [108, 105]) = true := by decide
       cases e2 : abv sLi ulolN l.reverse with
       | none =>
         have B2 := A2 v l hA hl; rw [abI_none e2] at B2; have B2 := Lib.hid B2; have HR := Lib.hid (show stI l sLi = l.length by unfold stI; rw [cls_li, e1]; simp [e2]); obtain ⟨ao, cap, rfl, hc, -⟩ := hA; clear A1 A2 e1 e2 hb; go_enter Tryz.func116, Tryz.ntmps116; go_wp2_with (first | (go_at_call 147; (with_reducible refine BC.out.mono ?_); rintro e w' ⟨rfl, rfl⟩) | (go_at_call 119; (with_reducible refine B1.out.mono ?_); rintro e w' ⟨rfl, rfl⟩) | (go_at_call 119; (with_reducible refine B2.out.mono ?_); rintro e w' ⟨rfl, rfl⟩)); go_ret; exact ⟨ret_int (by rw [HR.out]), rfl⟩
       | some j =>
         obtain ⟨q1, q2⟩ := abI_some e2; have B2 := A2 v l hA hl; rw [q1] at B2; have B2 := Lib.hid B2; have HR := Lib.hid (show stI l sLi = j by unfold stI; rw [cls_li, e1]; simp [e2]); obtain ⟨ao, cap, rfl, hc, h⟩ := hA; obtain ⟨g, o, rfl, -⟩ := h j q2; have q3 : (j : Int) ≤ (cap : Int) := by omega
         clear A1 A2 e1 e2 hb h q1; go_enter Tryz.func116, Tryz.ntmps116; go_wp2_with (first | (go_at_call 147; (with_reducible refine BC.out.mono ?_); rintro e w' ⟨rfl, rfl⟩) | (go_at_call 119; (with_reducible refine B1.out.mono ?_); rintro e w' ⟨rfl, rfl⟩) | (go_at_call 119; (with_reducible refine B2.out.mono ?_); rintro e w' ⟨rfl, rfl⟩)); go_ret; exact ⟨ret_int (by rw [HR.out]), rfl⟩
     · have h1 : (nm == [108, 105]) = false := by simpa [sLi] using hli
       have HR := Lib.hid (show stI l nm = l.length by unfold stI; rw [cls_bk hb hli, e1]; simp); obtain ⟨ao, cap, rfl, hc, -⟩ := hA; clear A1 A2 e1 hb hli; go_enter Tryz.func116, Tryz.ntmps116; go_wp2_with (first | (go_at_call 147; (with_reducible refine BC.out.mono ?_); rintro e w' ⟨rfl, rfl⟩) | (go_at_call 119; (with_reducible refine B1.out.mono ?_); rintro e w' ⟨rfl, rfl⟩)); go_ret; exact ⟨ret_int (by rw [HR.out]), rfl⟩
   | some i =>
     obtain ⟨p1, p2⟩ := abI_some e1; have B1 := A1 v l hA hl; rw [p1] at B1; have B1 := Lib.hid B1; obtain ⟨ao, cap, rfl, hc, h⟩ := hA; obtain ⟨g, o, rfl, -⟩ := h i p2; have hA' : StS w (.slice (some ⟨g, o, none⟩) i cap) (l.take i) := StS.take ⟨_, _, rfl, hc, h⟩ i (by omega); have hl' : (l.take i).length = i := by simp; omega
     have hdr : l.reverse.drop (l.reverse.length - i) = (l.take i).reverse := by rw [rev_take l i (by omega)]; simp
     have p3 : (i : Int) ≤ (cap : Int) := by omega
     by_cases hli : nm = sLi
     · subst hli; have h1 : (sLi == [108, 105]) = true := by decide
       cases e2 : abv sLi ulolN (l.take i).reverse with
       | none =>
         have B2 := A2 _ _ hA' (by omega); rw [abI_none e2] at B2; have B2 := Lib.hid B2; have HR := Lib.hid (show stI l sLi = i by unfold stI; rw [cls_li, e1, Option.getD_some, hdr, e2]; rfl); clear A1 A2 e1 e2 hb h hA' hl' hdr p1; go_enter Tryz.func116, Tryz.ntmps116; go_wp2_with (first | (go_at_call 147; (with_reducible refine BC.out.mono ?_); rintro e w' ⟨rfl, rfl⟩) | (go_at_call 119; (with_reducible refine B1.out.mono ?_); rintro e w' ⟨rfl, rfl⟩) | (go_at_call 119; (with_reducible refine B2.out.mono ?_); rintro e w' ⟨rfl, rfl⟩)); go_ret; exact ⟨ret_int (by rw [HR.out]), rfl⟩
       | some j =>
         obtain ⟨q1, q2⟩ := abI_some e2; have B2 := A2 _ _ hA' (by omega); rw [q1] at B2; have B2 := Lib.hid B2; have HR := Lib.hid (show stI l sLi = j by unfold stI; rw [cls_li, e1, Option.getD_some, hdr, e2]; rfl); have q3 : (j : Int) ≤ (cap : Int) := by omega
         clear A1 A2 e1 e2 hb h hA' hl' hdr p1 q1; go_enter Tryz.func116, Tryz.ntmps116; go_wp2_with (first | (go_at_call 147; (with_reducible refine BC.out.mono ?_); rintro e w' ⟨rfl, rfl⟩) | (go_at_call 119; (with_reducible refine B1.out.mono ?_); rintro e w' ⟨rfl, rfl⟩) | (go_at_call 119; (with_reducible refine B2.out.mono ?_); rintro e w' ⟨rfl, rfl⟩)); go_ret; exact ⟨ret_int (by rw [HR.out]), rfl⟩
     · have h1 : (nm == [108, 105]) = false := by simpa [sLi] using hli
       have HR := Lib.hid (show stI l nm = i by unfold stI; rw [cls_bk hb hli, e1]; rfl); clear A1 A2 e1 hb hli h hA' hl' hdr p1; go_enter Tryz.func116, Tryz.ntmps116; go_wp2_with (first | (go_at_call 147; (with_reducible refine BC.out.mono ?_); rintro e w' ⟨rfl, rfl⟩) | (go_at_call 119; (with_reducible refine B1.out.mono ?_); rintro e w' ⟨rfl, rfl⟩)); go_ret; exact ⟨ret_int (by rw [HR.out]), rfl⟩
theorem bel_gr {w W : World} {g : Option Nat} {k : Nat} (h : w.grownBy W g) (hk : ∀ j, g = some j → k ≤ j) (hs : k ≤ w.heap.size) : Below k w W :=
 ⟨h.os, h.tape, h.output, h.size, fun i hi => h.block i (by omega) (fun e => by have := hk i e.symm; omega)⟩
theorem new_cells2 (w : World) (o : Obj) (c : Array Value) (e : TypeId) : ∀ j u, c.toList[j]? = some u → ((w.alloc o).alloc (.cells c e)).cell? ((⟨w.heap.size + 1, 0, none⟩ : Addr).add j) = some u := by
 have := new_cells (w.alloc o) c e; simpa using this
theorem Tryz.infoStr : (Tryz.prog.info? 9).map (fun i => (i.zero, i.size, i.bytes)) = some (some (.string ⟨#[]⟩), 1, 16) := by kernel_rfl
def strV (l : List Nm) : List Value := l.map fun n => .string ⟨n.toArray⟩
theorem strV_snoc (l : List Nm) (n : Nm) : strV (l ++ [n]) = strV l ++ [.string ⟨n.toArray⟩] := by simp [strV]
theorem own_sts {w : World} {base : Nat} {v : Value} {l : List Nm} (h : w.ownsRow base 9 1 v l.length (strV l)) : StS w v l := by
 have h' := h; rcases h.2 with ⟨rfl, h0⟩ | ⟨g, cap, cur, rfl, -, hg, hnc, -⟩
 · have : l = [] := List.eq_nil_of_length_eq_zero h0; subst this; exact ⟨none, 0, rfl, Nat.le_refl _, fun i hi => absurd hi (by simp)⟩
 · refine ⟨_, _, rfl, hnc, fun i hi => ⟨g, 0, rfl, (Array.getElem?_eq_some_iff.1 hg).1, ?_⟩⟩; have := World.ownsRow.cellAt h' i (by omega); rw [Nat.zero_add, this]; simp [strV, hi]
theorem BdR.cells {w : World} {base b : Nat} {P : Nat → Prop} {li : List (List Nd)} {x : List Nd} {op : List (Nm × List Atr)} {gn cn : Nat} {vo v : Value} {lv : List Value} {oe : List Oent} (h : BdR w base b P li x op gn cn vo lv v oe) :
 w.cell? ⟨b, 0, none⟩ = some (.slice (some ⟨gn, 0, none⟩) (lv.length + 1) cn) ∧ w.cell? ⟨b, 1, none⟩ = some vo ∧ w.frozen? ⟨b, 0, none⟩ = false ∧ w.frozen? ⟨b, 1, none⟩ = false := by
 have := h.blk; simp [World.cell?, World.frozen?, this]
theorem BdR.oc {w : World} {base b : Nat} {P : Nat → Prop} {li : List (List Nd)} {x : List Nd} {op : List (Nm × List Atr)} {gn cn : Nat} {vo v : Value} {lv : List Value} {oe : List Oent} (h : BdR w base b P li x op gn cn vo lv v oe) :
 ∃ ao co, vo = .slice ao oe.length co ∧ oe.length ≤ co ∧ ∀ i (hi : i < oe.length), ∃ g, ao = some ⟨g, 0, none⟩ ∧ g < w.heap.size ∧ w.cell? ⟨g, i * 4, none⟩ = some (.string ⟨oe[i].1.1.toArray⟩) ∧ w.cell? ⟨g, i * 4 + 1, none⟩ = some oe[i].2 ∧ w.cell? ⟨g, i * 4 + 2, none⟩ = some (.string ⟨#[]⟩) ∧ w.cell? ⟨g, i * 4 + 3, none⟩ = some (.slice none 0 0) := by
 have h' := h.opn; rcases h.opn.2 with ⟨rfl, h0⟩ | ⟨g, cap, cur, rfl, -, hg, hnc, -⟩
 · exact ⟨none, 0, by rw [h0], by omega, fun i hi => by omega⟩
 · refine ⟨_, _, rfl, hnc, fun i hi => ⟨g, rfl, (Array.getElem?_eq_some_iff.1 hg).1, ?_⟩⟩; obtain ⟨t1, t2, t3, t4⟩ := opV_get oe i hi; refine ⟨?_, ?_, ?_, ?_⟩
   · rw [World.ownsRow.cellAt h' _ (by omega)]; exact t1
   · rw [World.ownsRow.cellAt h' _ (by omega)]; exact t2
   · rw [World.ownsRow.cellAt h' _ (by omega)]; exact t3
   · rw [World.ownsRow.cellAt h' _ (by omega)]; exact t4
theorem names_c (base b : Nat) (P : Nat → Prop) (s : St) (w : World) (hB : BdS w base b P s) (hl : s.2.length ≤ 1000000) :
 Calls Tryz.prog 117 #[.pointer (some ⟨b, 0, none⟩)] w fun e w' => ∃ v, e = .returned v ∧ StS w' v (nms s).reverse ∧ Bl w w' := by
 obtain ⟨i0, hi, hz0, hz1, hz2⟩ := info_parts Tryz.infoStr; obtain ⟨gn, cn, vo, lv, v, oe, h⟩ := hB; have hnm : oe.map (·.1.1) = (nms s).reverse := by
  rw [show nms s = s.2.map (·.1) from rfl, ← opO_nms, ← h.oeq]; simp
 have hlen : oe.length ≤ 1000000 := by rw [← opO_len s.2, ← h.oeq] at hl; simpa using hl
 obtain ⟨c0, c1, f0, f1⟩ := h.cells; have hbl := h.blt; obtain ⟨ao, co, rfl, hco, hoc⟩ := h.oc; have HA := Lib.hid (fun (p : Oent) (hp : p ∈ oe) => (show ∃ a n c, p.2 = .slice a n c by obtain ⟨a, c, e, -⟩ := h.oat p hp; exact ⟨a, _, c, e⟩)); rw [← hnm]; have HO := Lib.hid hoc; clear hoc hnm h; go_enter Tryz.func117, Tryz.ntmps117; go_wp2; go_loopw [3, 11] (fun v i wr => ∃ k : Nat, k ≤ oe.length ∧ i = .int .i64 k ∧ wr.ownsRow w.heap.size 9 1 v ((oe.map (·.1.1)).take k).length (strV ((oe.map (·.1.1)).take k)) ∧ Bl w wr) (fun _ i _ => oe.length - (intOf i).toNat); case atStart => exact ⟨0, Nat.zero_le _, rfl, World.ownsRow_nil _ _ _ _, Bl.refl _⟩
 case round =>
  obtain ⟨k, hk, rfl, hown, hb⟩ := hrel; by_cases hlt : k < oe.length
  · obtain ⟨g, rfl, hg, h1, h2, h3, h4⟩ := HO.out k hlt; have y1 := (hb.cells.1 g _ hg).trans h1; have y2 := (hb.cells.1 g _ hg).trans h2; obtain ⟨a', n', c', ea⟩ := HA.out oe[k] (List.getElem_mem hlt); rw [ea] at y2; clear ea; have y3 := (hb.cells.1 g _ hg).trans h3; have y4 := (hb.cells.1 g _ hg).trans h4; have hs1 := Below.size hb; have hkl : ((oe.map (·.1.1)).take k).length = k := by simp; omega
    have HT := Lib.hid (show (oe.map (·.1.1)).take (k + 1) = (oe.map (·.1.1)).take k ++ [oe[k].1.1] by rw [take_snoc _ k (by simpa using hlt)]; simp); rw [hkl] at hown; have HK := Lib.hid hkl; clear h1 h2 h3 h4 hkl; go_wp2_with (at_builtin; refine wpList_append_own _ rfl _ _ 25 rfl w.heap.size 9 i0 (.string ⟨#[]⟩) 1 16 Tryz.underlying25 hi hz0 hz1 hz2 rfl (by decide) _ _ _ rfl ((World.ownsRow.alloc (World.ownsRow.alloc hown _) _)) ⟨wr.heap.size + 1, 0, none⟩ 1 1 [.string ⟨oe[k].1.1.toArray⟩] rfl rfl (new_cells2 wr _ #[.string ⟨oe[k].1.1.toArray⟩] 9) (by simp [Value.oneCell']) (by unfold maxLen; omega) (by omega) (by simp; omega) ?_); intro v' wz hown' hgrow _; have hlt2 := World.ownsRow.lt hown; have hbz : Bl w wz := Below.trans ((hb.alloc _).alloc _) (bel_gr hgrow (fun j hj => (hlt2 j hj).1) (by simp; omega)); clear hgrow; go_wp2; go_roundw; case rel => exact ⟨k + 1, by omega, by go_num, by rw [HT.out, strV_snoc, List.length_append, HK.out]; exact hown', hbz⟩
    case measure => simp [intOf]; omega
  · have HE := Lib.hid (show (oe.map (·.1.1)).take k = oe.map (·.1.1) from List.take_of_length_le (by simp; omega)); go_wp2; go_ret; rw [HE.out] at hown; exact ⟨_, rfl, own_sts hown, hb⟩
end Go.Proofs.YtamdlihgecpbkaaGreatDoor

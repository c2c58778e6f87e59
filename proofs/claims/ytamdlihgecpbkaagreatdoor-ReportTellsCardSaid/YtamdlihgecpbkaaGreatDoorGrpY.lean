/- Trees: the reference's FlatOf. · Tokens: the reference: CheckAttrs. · Trees: the reference's names appended; check in plain Lean. · Trees: the reference's joinText. · Trees: the reference's way, without its counter. -/
import Derived.Test.YtamdlihgecpbkaaGreatDoorGrpL
import Derived.Test.YtamdlihgecpbkaaGreatDoorTreRa
import Derived.Test.YtamdlihgecpbkaaGreatDoorGrpM
import Derived.Test.YtamdlihgecpbkaaGreatDoorGrpD
import Derived.Test.YtamdlihgecpbkaaGreatDoorGrpO
import Derived.Deep.AppendLies
import Derived.Test.YtamdlihgecpbkaaGreatDoorTreIa
set_option maxRecDepth 100000
set_option maxHeartbeats 4000000
namespace Go.Proofs.YtamdlihgecpbkaaGreatDoor
open Go.RowKit
theorem run_append_ats {P : Program} (w : World) (base : Nat) (t ty e : TypeId) (i : TypeInfo) (z : Value) (bytes : Nat) (ht : P.underlying t = some (.slice e)) (hi : P.info? e = some i) (hz : i.zero = some z)
 (hsize : i.size = 2) (hby : i.bytes = bytes) (hzs : z.cells.size = 2)
 (v : Value) (n : Nat) (xs : List Value) (hown : w.ownsRow base e 2 v n xs) (va : Value) (al : List Atr) (hA : AtS w va al)
 (h63 : n + al.length ≤ maxLen) (hbytes : (n + al.length) * bytes ≤ 140737488355328) (hbase : base ≤ w.heap.size) :
 ∃ v' w', (Builtin.append_ #[t, t] ty #[v, va]).run P w = .ok v' w' ∧ w'.ownsRow base e 2 v' (n + al.length) (xs ++ atC al) ∧ w.grownBy w' v.ownBlock := by
 have hA' := hA; obtain ⟨ao, cap, rfl, hA⟩ := hA; cases ao with
 | none =>
   have h0 : al = [] := by
    rcases al with _ | ⟨a, al⟩
    · rfl
    · obtain ⟨g, o, e, _⟩ := hA 0 (by simp); cases e
   subst h0; refine ⟨v, w, ?_, by simpa [atC] using hown, gb_bl (b := v.ownBlock) (Bl.refl w)⟩; rcases hown.2 with ⟨rfl, rfl⟩ | ⟨g, cap, cur, rfl, _, _, hnc, _⟩
   · simp [Builtin.append_, run_underlying ht, sizeOf, typeInfo, hi, Builtin.lenOf, Builtin.firstCells]
   · simp [Builtin.append_, run_underlying ht, sizeOf, typeInfo, hi, Builtin.lenOf, Builtin.firstCells, hnc, storeCells]
 | some a =>
   have hnews : ∀ j u, (atC al)[j]? = some u → w.cell? (a.add j) = some u := by
    rcases al with _ | ⟨b, al⟩
    · intro j u h; simp [atC] at h
    · obtain ⟨g, o, e, _⟩ := hA 0 (by simp); cases e; exact ats_news hA'
   obtain ⟨v', w', hr, h2, h3, _⟩ := run_append_own (P := P) w base t ty e i z 2 bytes ht hi hz hsize hby hzs (by decide) v n xs hown a al.length cap (atC al) (atC_len al) hnews (atC_one al) h63 hbytes hbase; exact ⟨v', w', hr, h2, h3⟩
theorem step_append_ats {P : Program} {ops : Array Oper} {o : Oper} {a : Act} {w : World} {K : Act → World → Prop} {Q : Exit → Act → World → Prop} {E : Prop}
 (hgd : o.guard = none) (s x : Operand) (t : TypeId) (hop : o.op = Op.call { callee := Callee.builtin Builtin.append, args := #[s, x], argTypes := #[t, t] })
 (base : Nat) (e : TypeId) (i : TypeInfo) (z : Value) (bytes : Nat) (ht : P.underlying t = some (.slice e)) (hi : P.info? e = some i) (hz : i.zero = some z)
 (hsize : i.size = 2) (hby : i.bytes = bytes) (hzs : z.cells.size = 2)
 (v : Value) (n : Nat) (xs : List Value) (hs : a.eval s = v) (hown : w.ownsRow base e 2 v n xs) (va : Value) (al : List Atr) (hx : a.eval x = va) (hA : AtS w va al)
 (h63 : n + al.length ≤ maxLen) (hbytes : (n + al.length) * bytes ≤ 140737488355328) (hbase : base ≤ w.heap.size)
 (hK : ∀ v' w', w'.ownsRow base e 2 v' (n + al.length) (xs ++ atC al) → w.grownBy w' v.ownBlock → K (a.put o.dst v') w') :
 if Region.wanted o (yielded ops a.tmps) = true then Oper.wp P o a w K Q else E := by
 have hw : Region.wanted o (yielded ops a.tmps) = true := by simp [Region.wanted, hgd]
 rw [if_pos hw]; obtain ⟨v', w', hrun, h2, h3⟩ := run_append_ats (P := P) w base t o.type e i z bytes ht hi hz hsize hby hzs v n xs hown va al hA h63 hbytes hbase; unfold Oper.wp; simp [execOp, hop, resolve, invoke, builtin, hs, hx, hrun, Result.andThen]; exact hK v' w' h2 h3
theorem strV_len (l : List Nm) : (strV l).length = l.length := by simp [strV]
theorem run_append_sts {P : Program} (w : World) (base : Nat) (t ty e : TypeId) (i : TypeInfo) (z : Value) (bytes : Nat) (ht : P.underlying t = some (.slice e)) (hi : P.info? e = some i) (hz : i.zero = some z)
 (hsize : i.size = 1) (hby : i.bytes = bytes) (hzs : z.cells.size = 1)
 (v : Value) (n : Nat) (xs : List Value) (hown : w.ownsRow base e 1 v n xs) (va : Value) (al : List Nm) (hA : StS w va al)
 (h63 : n + al.length ≤ maxLen) (hbytes : (n + al.length) * bytes ≤ 140737488355328) (hbase : base ≤ w.heap.size) :
 ∃ v' w', (Builtin.append_ #[t, t] ty #[v, va]).run P w = .ok v' w' ∧ w'.ownsRow base e 1 v' (n + al.length) (xs ++ strV al) ∧ w.grownBy w' v.ownBlock := by
 have hA' := hA; obtain ⟨ao, cap, rfl, -, hA⟩ := hA; cases ao with
 | none =>
   have h0 : al = [] := by
    rcases al with _ | ⟨a, al⟩
    · rfl
    · obtain ⟨g, o, e, _⟩ := hA 0 (by simp); cases e
   subst h0; refine ⟨v, w, ?_, by simpa [strV] using hown, gb_bl (b := v.ownBlock) (Bl.refl w)⟩; rcases hown.2 with ⟨rfl, rfl⟩ | ⟨g, cap, cur, rfl, _, _, hnc, _⟩
   · simp [Builtin.append_, run_underlying ht, sizeOf, typeInfo, hi, Builtin.lenOf, Builtin.firstCells]
   · simp [Builtin.append_, run_underlying ht, sizeOf, typeInfo, hi, Builtin.lenOf, Builtin.firstCells, hnc, storeCells]
 | some a =>
   have hnews : ∀ j u, (strV al)[j]? = some u → w.cell? (a.add j) = some u := by
    rcases al with _ | ⟨b, al⟩
    · intro j u h; simp [strV] at h
    · obtain ⟨g, o, e, _⟩ := hA 0 (by simp); cases e; exact sts_news hA'
   obtain ⟨v', w', hr, h2, h3, _⟩ := run_append_own (P := P) w base t ty e i z 1 bytes ht hi hz hsize hby hzs (by decide) v n xs hown a al.length cap (strV al) (by rw [strV_len, Nat.mul_one]) hnews (strV_one al) h63 hbytes hbase; exact ⟨v', w', hr, h2, h3⟩
theorem step_append_sts {P : Program} {ops : Array Oper} {o : Oper} {a : Act} {w : World} {K : Act → World → Prop} {Q : Exit → Act → World → Prop} {E : Prop}
 (hgd : o.guard = none) (s x : Operand) (t : TypeId) (hop : o.op = Op.call { callee := Callee.builtin Builtin.append, args := #[s, x], argTypes := #[t, t] })
 (base : Nat) (e : TypeId) (i : TypeInfo) (z : Value) (bytes : Nat) (ht : P.underlying t = some (.slice e)) (hi : P.info? e = some i) (hz : i.zero = some z)
 (hsize : i.size = 1) (hby : i.bytes = bytes) (hzs : z.cells.size = 1)
 (v : Value) (n : Nat) (xs : List Value) (hs : a.eval s = v) (hown : w.ownsRow base e 1 v n xs) (va : Value) (al : List Nm) (hx : a.eval x = va) (hA : StS w va al)
 (h63 : n + al.length ≤ maxLen) (hbytes : (n + al.length) * bytes ≤ 140737488355328) (hbase : base ≤ w.heap.size)
 (hK : ∀ v' w', w'.ownsRow base e 1 v' (n + al.length) (xs ++ strV al) → w.grownBy w' v.ownBlock → K (a.put o.dst v') w') :
 if Region.wanted o (yielded ops a.tmps) = true then Oper.wp P o a w K Q else E := by
 have hw : Region.wanted o (yielded ops a.tmps) = true := by simp [Region.wanted, hgd]
 rw [if_pos hw]; obtain ⟨v', w', hrun, h2, h3⟩ := run_append_sts (P := P) w base t o.type e i z bytes ht hi hz hsize hby hzs v n xs hown va al hA h63 hbytes hbase; unfold Oper.wp; simp [execOp, hop, resolve, invoke, builtin, hs, hx, hrun, Result.andThen]; exact hK v' w' h2 h3
theorem ndV_one (l : List Nent) (h : ∀ p ∈ l, p.2.1.oneCell' = true ∧ p.2.2.oneCell' = true) : ∀ u ∈ ndV l, u.oneCell' = true := by
 intro u hu; simp only [ndV, List.mem_flatMap] at hu; obtain ⟨p, hp, hu⟩ := hu; simp only [List.mem_cons, List.not_mem_nil, or_false] at hu; rcases hu with rfl | rfl | rfl | rfl
 · rfl
 · exact (h p hp).1
 · rfl
 · exact (h p hp).2
theorem NdO.ones {w : World} {base : Nat} {P : Nat → Prop} {v : Value} {l : List Nd} {ents : List Nent} (h : NdO w base P v l ents) : ∀ u ∈ ndV ents, u.oneCell' = true :=
 ndV_one ents fun p hp => by
  obtain ⟨⟨a, c, e, _⟩, ⟨a2, c2, e2, _⟩⟩ := h.all p hp; rw [e, e2]; exact ⟨rfl, rfl⟩
theorem NdO.base_le {w : World} {base base' : Nat} {P : Nat → Prop} {v : Value} {l : List Nd} {ents : List Nent} (h : NdO w base P v l ents) (hb : base' ≤ base) : NdO w base' P v l ents := ⟨h.eq, own_baseT h.row hb, h.low, h.all⟩
theorem jt_more {W w6 wz : World} {base : Nat} {P : Nat → Prop} {v v' va vk : Value} {x : List Nd} {ents : List Nent} (d : Nd) (H : NdO W base P v x ents) (hP : ∀ k, P k → k < W.heap.size) (hbase : base ≤ W.heap.size) (hb : Bl W w6) (ha : AtP w6 P va d.a) (hk : NdS w6 P vk d.k)
 (hown : wz.ownsRow base 76 4 v' (ents.length + 1) (ndV ents ++ [.string ⟨d.n.toArray⟩, va, .string ⟨d.x.toArray⟩, vk])) (hg : Grew w6 wz v v') : NdO wz base P v' (x ++ [d]) (ents ++ [(d, va, vk)]) ∧ Below base W wz := by
 refine ⟨NdO.snoc d va vk (H.of_bl hb) (fun k hk => Nat.lt_of_lt_of_le (hP k hk) (Below.size hb)) ha hk hown hg, ?_⟩; have h1 : Below base W w6 := Below.mono hb hbase; refine h1.trans ?_; have hs := Below.size hb; rcases hg with ⟨_, hg⟩ | ⟨hg, _⟩
 · exact below_gr hg (fun j hj => (H.lt j hj).1) (by omega)
 · exact below_gr hg (fun j hj => by cases hj) (by omega)
theorem jt_copy {W w6 wz : World} {base : Nat} {P : Nat → Prop} {v u v' : Value} {x : List Nd} {ents : List Nent} (H : NdO W base P v x ents) (hP : ∀ k, P k → k < W.heap.size) (hb : Bl W w6) (hu : ∀ j, u.ownBlock = some j → W.heap.size ≤ j)
 (hown : wz.ownsRow W.heap.size 76 4 v' ents.length (ndV ents)) (hg : w6.grownBy wz u.ownBlock) : NdO wz W.heap.size P v' x ents ∧ Bl W wz := by
 have hbz : Bl W wz := Below.trans hb (bel_gr hg hu (Below.size hb)); refine ⟨⟨H.eq, hown, fun k hk hp => ?_, fun p hp => ⟨(H.all p hp).1.still (Still.of_bl hbz), (H.all p hp).2.of_bl hbz⟩⟩, hbz⟩; have := (World.ownsRow.lt hown k hk).1; have := hP k hp; omega
theorem joinText_c (base : Nat) (P : Nat → Prop) (x : List Nd) (ents : List Nent) (v : Value) (t : List UInt8) (w : World) (H : NdO w base P v x ents) (hP : ∀ k, P k → k < w.heap.size) (hbase : base ≤ w.heap.size) (hx : x.length ≤ 10000000) (ht : t.length ≤ 100000000)
 (hlast : ∀ c ∈ x, c.x.length ≤ 100000000) :
 Calls Tryz.prog 100 #[v, .agg #[.string ⟨#[]⟩, .slice none 0 0, .string ⟨t.toArray⟩, .slice none 0 0]] w fun e w' => ∃ v' ents', e = .returned v' ∧ NdO w' base P v' (pt x (.mk [] [] t [])) ents' ∧ Below base w w' := by
 obtain ⟨i0, hi, hz0, hz1, hz2⟩ := info_parts Tryz.infoNod; obtain ⟨ax, cx, hv, hxc⟩ := own_shp H.row; have hel := H.len; rcases List.eq_nil_or_concat x with rfl | ⟨o, c, hxe⟩
 · have h0 : ents = [] := List.eq_nil_of_length_eq_zero (by simpa using hel); subst h0; subst hv; have HH := Lib.hid H; clear H; go_enter Tryz.func100, Tryz.ntmps100; go_wp2_with (at_builtin; refine Hid.out ?_); refine Lib.hid ?_; refine wpList_append_gr _ rfl _ _ 53 rfl base 76 i0 (.agg #[.string ⟨#[]⟩, .slice none 0 0, .string ⟨#[]⟩, .slice none 0 0]) 4 80 Tryz.underlying53 hi hz0 hz1 hz2 rfl (by decide) (.slice ax 0 cx) 0 (ndV []) rfl (own_bl HH.out.row Bl.z) ⟨w.heap.size + 1, 0, none⟩ 1 1 [.string ⟨#[]⟩, .slice none 0 0, .string ⟨t.toArray⟩, .slice none 0 0] rfl rfl (new_cells2 w _ #[.string ⟨#[]⟩, .slice none 0 0, .string ⟨t.toArray⟩, .slice none 0 0] _) (by simp [Value.oneCell']) (by decide) (by unfold maxLen; omega) (by omega) (by simp; omega) ?_; intro v' wz hown hg; obtain ⟨h1, h2⟩ := jt_more (.mk [] [] t []) HH.out hP hbase Bl.z (AtP.nil _ _) (NdS.nil _ _) hown hg; clear hown hg; go_wp2; go_ret; exact ⟨_, _, rfl, h1, h2⟩
 · rw [List.concat_eq_append] at hxe; have hX1 : (0 : Int) < (x.length : Int) := by rw [hxe]; simp <;> omega
   rw [hel] at hv hxc; subst hv; obtain ⟨gx, rfl, x0, x1, x2, x3⟩ := H.lastc o c hxe; have hi1 : (x.length : Int) - 1 = (o.length : Int) := by rw [hxe]; simp
   have hi2 : (o.length : Int) < (x.length : Int) := by omega
   have hcx := hlast c (by rw [hxe]; simp); have HH := Lib.hid H; have HXE := Lib.hid hxe; have HEL := Lib.hid hel; by_cases hn : c.n = []
   · have hpt := Lib.hid (show pt x (.mk [] [] t []) = o ++ [.mk c.n c.a (c.x ++ t) c.k] by
      rw [hxe]; unfold pt; cases c with | mk n a y k => simp only [Nd.n] at hn; subst hn; simp [Nd.n, Nd.a, Nd.x, Nd.k])
     have hne : c.n.isEmpty = true := by simp [hn]
     clear H hxe hel hn; go_enter Tryz.func100, Tryz.ntmps100; go_wp2_with (at_builtin; refine Hid.out ?_); refine Lib.hid ?_; refine wpList_append_row _ rfl _ _ 53 rfl w.heap.size base 76 i0 (.agg #[.string ⟨#[]⟩, .slice none 0 0, .string ⟨#[]⟩, .slice none 0 0]) 4 80 Tryz.underlying53 hi hz0 hz1 hz2 rfl (by decide) (.slice (some ⟨w.heap.size + 1, 0, none⟩) 0 0) 0 [] rfl (by have := World.ownsRow_made (base := w.heap.size) (e := 76) (size := 4) (w.alloc (.cells #[.string ⟨#[]⟩, .slice none 0 0, .string ⟨t.toArray⟩, .slice none 0 0] 76)) #[] 0 (by simp) (by decide) rfl; simpa using this) (.slice (some ⟨gx, 0, none⟩) x.length cx) ents.length (ndV ents) rfl (own_bl (by have := HH.out.row; rw [HEL.out] at this ⊢; exact this) Bl.z) HH.out.ones (by rw [HEL.out]; unfold maxLen; omega) (by rw [HEL.out]; omega) (by simp; omega) ?_; intro v' wz hown hg; have b2 : wz.cell? ⟨w.heap.size, 2, none⟩ = some (.string ⟨t.toArray⟩) := (hg.cell_far ⟨w.heap.size, 2, none⟩ (by simp <;> omega) (by simp [Value.ownBlock])).trans (by simp); obtain ⟨hN, hbz⟩ := jt_copy HH.out hP Bl.z (fun j hj => by simp only [Value.ownBlock, Option.some.injEq] at hj; omega) (by simpa using hown) hg; have hsz := Below.size hbz; have hwz : w.heap.size < wz.heap.size := by have := hg.size; simp at this; omega
     clear hown hg; obtain ⟨az, cz, rfl, -⟩ := own_shp hN.row; obtain ⟨gz, rfl, e0, e1, e2, e3⟩ := hN.lastc o c HXE.out; have hgz := (hN.lt gz rfl).1; have hel2 := HEL.out; obtain ⟨ents', hf⟩ := NdO.settext (l := o) (d := c) (by have h9 := hN; rw [HXE.out] at h9; exact h9) (c.x ++ t); have HF := Lib.hid hf; have HB := Lib.hid (Below.mono (show Bl w (wz.setCell ⟨gz, o.length * 4 + 2, none⟩ (.string ⟨(c.x ++ t).toArray⟩)) from Below.setCell hbz hgz _) hbase); clear hf hN hbz; rw [hel2]; go_wp2; have hw1 : IntKind.i64.wrap (o.length : Int) = (o.length : Int) := by go_arith
     have hw2 : IntKind.i64.wrap ((x.length : Int) - 1) = (o.length : Int) := by go_arith
     have hi3 : (0 : Int) ≤ (o.length : Int) := by omega
     go_region; all_goals
      go_wp2; go_ret; exact ⟨_, ents', rfl, by rw [hpt.out]; have h8 := HF.out.base_le hbase; rw [hel2] at h8; exact h8.of_bl (by repeat (first | exact Bl.refl _ | refine Bl.drewN ?_ _ | refine Bl.drew ?_)), by repeat (first | exact HB.out | refine Below.drew ?_)⟩
   · have hpt := Lib.hid (show pt x (.mk [] [] t []) = x ++ [.mk [] [] t []] by
      rw [hxe]; unfold pt; cases c with | mk n a y k => cases n with | nil => exact absurd rfl hn | cons u n => simp)
     have hne : c.n.isEmpty = false := by cases e : c.n <;> simp_all
     clear H hxe hel hn; go_enter Tryz.func100, Tryz.ntmps100; go_wp2_with (at_builtin; refine Hid.out ?_); refine Lib.hid ?_; refine wpList_append_gr _ rfl _ _ 53 rfl base 76 i0 (.agg #[.string ⟨#[]⟩, .slice none 0 0, .string ⟨#[]⟩, .slice none 0 0]) 4 80 Tryz.underlying53 hi hz0 hz1 hz2 rfl (by decide) (.slice (some ⟨gx, 0, none⟩) x.length cx) ents.length (ndV ents) rfl (own_bl (by have := HH.out.row; rw [HEL.out] at this ⊢; exact this) Bl.z) ⟨w.heap.size + 1, 0, none⟩ 1 1 [.string ⟨#[]⟩, .slice none 0 0, .string ⟨t.toArray⟩, .slice none 0 0] rfl rfl (new_cells2 w _ #[.string ⟨#[]⟩, .slice none 0 0, .string ⟨t.toArray⟩, .slice none 0 0] _) (by simp [Value.oneCell']) (by decide) (by rw [HEL.out]; unfold maxLen; omega) (by rw [HEL.out]; omega) (by simp; omega) ?_; intro v' wz hown hg; obtain ⟨h1, h2⟩ := jt_more (.mk [] [] t []) HH.out hP hbase Bl.z (AtP.nil _ _) (NdS.nil _ _) hown hg; clear hown hg; go_wp2; go_ret; exact ⟨_, _, rfl, by rw [hpt.out]; exact h1, h2⟩
theorem bld_cons (k : Nat) (r : List Nm) (t : Tok) (l : List Tok) (out : List Nd) : bld (k + 1) r (t :: l) out =
 if t.1 = 1 then bld k r l (pt out (.mk [] [] t.2.2.2 []))
 else if t.1 = 3 then (match abv t.2.1 (fun _ => false) r with | some i => (out, l, i) | none => bld k r l out)
 else if cls r t.2.1 < r.length then (out, t :: l, cls r t.2.1)
 else if r.length = 8 then bld k r l out
 else if emptyN t.2.1 = true then bld k r l (out ++ [.mk t.2.1 t.2.2.1 [] []])
 else if (bld k (t.2.1 :: r) l []).2.2 < r.length then (out ++ [.mk t.2.1 t.2.2.1 [] (bld k (t.2.1 :: r) l []).1], (bld k (t.2.1 :: r) l []).2.1, (bld k (t.2.1 :: r) l []).2.2)
 else bld k r (bld k (t.2.1 :: r) l []).2.1 (out ++ [.mk t.2.1 t.2.2.1 [] (bld k (t.2.1 :: r) l []).1]) := rfl
theorem bld_nil (k : Nat) (r : List Nm) (out : List Nd) : bld k r [] out = (out, [], r.length) := by cases k <;> rfl
theorem bld_len (k : Nat) : ∀ (r : List Nm) (l : List Tok) (out : List Nd), (bld k r l out).2.1.length ≤ l.length := by
 induction k with
 | zero => intro r l out; exact Nat.le_refl _
 | succ k ih =>
   intro r l out; cases l with
   | nil => rw [bld_nil]; exact Nat.le_refl _
   | cons t l =>
     rw [bld_cons]; simp only [List.length_cons]; split
     · have := ih r l (pt out (.mk [] [] t.2.2.2 [])); omega
     split
     · split
       · simp
       · have := ih r l out; omega
     split
     · simp
     split
     · have := ih r l out; omega
     split
     · have := ih r l (out ++ [.mk t.2.1 t.2.2.1 [] []]); omega
     have h1 := ih (t.2.1 :: r) l []; split
     · simp only []; omega
     · have h2 := ih r (bld k (t.2.1 :: r) l []).2.1 (out ++ [.mk t.2.1 t.2.2.1 [] (bld k (t.2.1 :: r) l []).1]); omega
theorem bld_fuel (k : Nat) : ∀ (k' : Nat) (r : List Nm) (l : List Tok) (out : List Nd), l.length ≤ k → l.length ≤ k' → bld k r l out = bld k' r l out := by
 induction k with
 | zero =>
   intro k' r l out h h'; obtain rfl := List.eq_nil_of_length_eq_zero (Nat.le_zero.1 h); rw [bld_nil, bld_nil]
 | succ k ih =>
   intro k' r l out h h'; cases l with
   | nil => rw [bld_nil, bld_nil]
   | cons t l =>
     simp only [List.length_cons, Nat.add_le_add_iff_right] at h; obtain ⟨k', rfl⟩ : ∃ j, k' = j + 1 := ⟨k' - 1, by simp only [List.length_cons] at h'; omega⟩; simp only [List.length_cons, Nat.add_le_add_iff_right] at h'; rw [bld_cons, bld_cons, ih k' r l _ h h', ih k' r l _ h h', ih k' r l _ h h', ih k' (t.2.1 :: r) l [] h h']; have hl := bld_len k' (t.2.1 :: r) l []; rw [ih k' r (bld k' (t.2.1 :: r) l []).2.1 _ (by omega) (by omega)]
def bl (r : List Nm) (l : List Tok) (out : List Nd) : List Nd × List Tok × Nat := bld l.length r l out
theorem bl_nil (r : List Nm) (out : List Nd) : bl r [] out = (out, [], r.length) := rfl
theorem bl_len (r : List Nm) (l : List Tok) (out : List Nd) : (bl r l out).2.1.length ≤ l.length := bld_len _ _ _ _
theorem bl_cons (r : List Nm) (t : Tok) (l : List Tok) (out : List Nd) : bl r (t :: l) out =
 if t.1 = 1 then bl r l (pt out (.mk [] [] t.2.2.2 []))
 else if t.1 = 3 then (match abv t.2.1 (fun _ => false) r with | some i => (out, l, i) | none => bl r l out)
 else if cls r t.2.1 < r.length then (out, t :: l, cls r t.2.1)
 else if r.length = 8 then bl r l out
 else if emptyN t.2.1 = true then bl r l (out ++ [.mk t.2.1 t.2.2.1 [] []])
 else if (bl (t.2.1 :: r) l []).2.2 < r.length then (out ++ [.mk t.2.1 t.2.2.1 [] (bl (t.2.1 :: r) l []).1], (bl (t.2.1 :: r) l []).2.1, (bl (t.2.1 :: r) l []).2.2)
 else bl r (bl (t.2.1 :: r) l []).2.1 (out ++ [.mk t.2.1 t.2.2.1 [] (bl (t.2.1 :: r) l []).1]) := by
 have h : ∀ out', bld l.length r (bl (t.2.1 :: r) l []).2.1 out' = bl r (bl (t.2.1 :: r) l []).2.1 out' := fun out' => bld_fuel _ _ _ _ _ (bl_len _ _ _) (Nat.le_refl _)
 rw [← h]; exact bld_cons l.length r t l out
theorem bld_suf (k : Nat) : ∀ (r : List Nm) (l : List Tok) (out : List Nd), ∃ j, (bld k r l out).2.1 = l.drop j := by
 induction k with
 | zero => intro r l out; exact ⟨0, rfl⟩
 | succ k ih =>
   intro r l out; cases l with
   | nil => exact ⟨0, by rw [bld_nil]; rfl⟩
   | cons t l =>
     rw [bld_cons]; have up : ∀ T : List Tok, (∃ j, T = l.drop j) → ∃ j, T = (t :: l).drop j := fun T ⟨j, h⟩ => ⟨j + 1, by rw [h]; rfl⟩
     split
     · exact up _ (ih r l _)
     split
     · split
       · exact ⟨1, rfl⟩
       · exact up _ (ih r l _)
     split
     · exact ⟨0, rfl⟩
     split
     · exact up _ (ih r l _)
     split
     · exact up _ (ih r l _)
     obtain ⟨j, hj⟩ := ih (t.2.1 :: r) l []; split
     · exact up _ ⟨j, hj⟩
     · obtain ⟨j2, hj2⟩ := ih r (bld k (t.2.1 :: r) l []).2.1 (out ++ [.mk t.2.1 t.2.2.1 [] (bld k (t.2.1 :: r) l []).1]); exact up _ ⟨j + j2, by rw [hj2, hj, List.drop_drop]⟩
theorem bl_drop (r : List Nm) (l : List Tok) (out : List Nd) : (bl r l out).2.1 = l.drop (l.length - (bl r l out).2.1.length) := by
 obtain ⟨j, hj⟩ := bld_suf l.length r l out; have h : (bl r l out).2.1 = l.drop j := hj; rw [h, List.length_drop]; by_cases hjl : j ≤ l.length
 · rw [show l.length - (l.length - j) = j by omega]
 · rw [List.drop_eq_nil_of_le (by omega), show l.length - (l.length - j) = l.length by omega, List.drop_length]
theorem bld_wt (k : Nat) : ∀ (r : List Nm) (l : List Tok) (out : List Nd), wtL (bld k r l out).1 + szT (bld k r l out).2.1 ≤ wtL out + szT l := by
 induction k with
 | zero => intro r l out; exact Nat.le_refl _
 | succ k ih =>
   intro r l out; cases l with
   | nil => rw [bld_nil]; exact Nat.le_refl _
   | cons t l =>
     rw [bld_cons]; have hs : szT (t :: l) = (t.2.1.length + szA t.2.2.1 + 6 * t.2.2.2.length + 5) + szT l := by simp [szT]
     have hA := wtA_sz t.2.2.1; have one : ∀ d : Nd, wtL (out ++ [d]) = wtL out + wtN d := fun d => by rw [wt_app]; simp [wtL]
     split
     · have h1 := ih r l (pt out (.mk [] [] t.2.2.2 [])); have h2 := pt_wt out (.mk [] [] t.2.2.2 []); simp only [wtN, wtL, wtA, List.map_nil, List.sum_nil, List.length_nil] at h2; omega
     split
     · split
       · simp only []; omega
       · have h1 := ih r l out; omega
     split
     · exact Nat.le_refl _
     split
     · have h1 := ih r l out; omega
     split
     · have h1 := ih r l (out ++ [.mk t.2.1 t.2.2.1 [] []]); rw [one] at h1; simp only [wtN, wtL, List.length_nil] at h1; omega
     have h1 := ih (t.2.1 :: r) l []; simp only [wtL] at h1; split
     · simp only [one, wtN, List.length_nil]; omega
     · have h2 := ih r (bld k (t.2.1 :: r) l []).2.1 (out ++ [.mk t.2.1 t.2.2.1 [] (bld k (t.2.1 :: r) l []).1]); rw [one] at h2; simp only [wtN, List.length_nil] at h2; omega
theorem bl_wt (r : List Nm) (l : List Tok) (out : List Nd) : wtL (bl r l out).1 + szT (bl r l out).2.1 ≤ wtL out + szT l := bld_wt _ _ _ _
theorem bl_ofM (l : List Tok) (ht : ∀ t ∈ l, TOk t) : (bl [] l []).1 = ofM l := ofM_bld l ht l.length (Nat.le_refl _)
end Go.Proofs.YtamdlihgecpbkaaGreatDoor

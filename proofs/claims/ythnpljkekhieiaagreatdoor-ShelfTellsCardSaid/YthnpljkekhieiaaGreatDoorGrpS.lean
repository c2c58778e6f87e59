/- Rows of entries in place: what stores leave; the place of an id; where an entry belongs. · Shelves: the place of an id; slices.Delete of an entry; where an entry belongs. · Shelves: slices.BinarySearchFunc of entries. -/
import Derived.Test.YthnpljkekhieiaaGreatDoorGrpR
import Derived.Test.YthnpljkekhieiaaGreatDoorGrpN
import Derived.Lib.SliceRun
import Derived.Deep.LoopGhost
set_option maxRecDepth 100000
set_option maxHeartbeats 4000000
namespace Go.Proofs.YthnpljkekhieiaaGreatDoor
open Go.RowKit
theorem setCells_hp (g:Nat) (e:TypeId) (fr:Nat × Nat):∀ (vs:List Value) (o:Nat) (w:World) (cur:Array Value),w.heap[g]? = some (.cells cur e fr) →
 ∃ cur', (w.setCells g o vs).heap[g]? = some (.cells cur' e fr)∧cur'.size = cur.size∧∀ j,cur'[j]? = if o ≤ j∧j < o + vs.length∧j < cur.size then vs[j - o]? else cur[j]?:=by
 intro vs;induction vs with
 | nil => intro o w cur h;exact ⟨cur,h,rfl,fun j => by rw [if_neg (by simp;omega)]⟩
 | cons v vs ih =>
   intro o w cur h;have hlt:g < w.heap.size:=(Array.getElem?_eq_some_iff.1 h).1;have hv:w.heap[g] = .cells cur e fr:=(Array.getElem?_eq_some_iff.1 h).2;have h2:(w.setCell ⟨g,o,none⟩ v).heap[g]? = some (.cells (cur.setIfInBounds o v) e fr):=by
    unfold World.setCell;rw [Array.getElem?_eq_getElem (by simpa using hlt),Array.getElem_modify];simp [hv]
   obtain ⟨cur', h3,h4,h5⟩:=ih (o + 1) _ _ h2;refine ⟨cur', h3,by rw [h4];simp,fun j => ?_⟩;rw [h5 j];simp only [Array.size_setIfInBounds,List.length_cons];by_cases e1:j = o
   · subst e1;rw [if_neg (by omega)];by_cases e2:j < cur.size
     · rw [if_pos ⟨Nat.le_refl _,by omega,e2⟩];simp [e2]
     · rw [if_neg (by omega)];simp [e2]
   · by_cases e2:o + 1 ≤ j∧j < o + 1 + vs.length∧j < cur.size
     · rw [if_pos e2,if_pos (by omega),show j - o = (j - (o + 1)) + 1 by omega];simp
     · rw [if_neg e2,if_neg (by omega)];simp [Ne.symm e1]
theorem setCells_gr (g:Nat):∀ (vs:List Value) (o:Nat) (w:World),w.grownBy (w.setCells g o vs) (some g):=by
 intro vs;induction vs with
 | nil => intro o w;exact World.grownBy.refl _ _
 | cons v vs ih =>
   intro o w;show w.grownBy ((w.setCell ⟨g,o,none⟩ v).setCells g (o + 1) vs) (some g);have h1:w.grownBy (w.setCell ⟨g,o,none⟩ v) (some g):=⟨rfl,rfl,rfl,by simp [World.setCell],fun k hk hne => by
    have:k ≠ g:=fun e => hne (by rw [e])
    simp [World.setCell,Array.getElem?_modify,Ne.symm this]⟩
   exact World.grownBy.trans h1 (ih (o + 1) _)
theorem own_mk {w:World} {base g n cap size:Nat} {e:TypeId} {cur:Array Value} {xs:List Value} (hb:base ≤ g) (hg:w.heap[g]? = some (.cells cur e (0,0))) (hnc:n ≤ cap) (hcm:cap ≤ maxLen) (hcs:cur.size = cap * size)
 (hl:xs.length = n * size) (hx:∀ j,j < n * size → cur[j]? = xs[j]?):w.ownsRow base e size (.slice (some ⟨g,0,none⟩) n cap) n xs:=by
 refine ⟨hl,.inr ⟨g,cap,cur,rfl,hb,hg,hnc,hcm,hcs,?_⟩⟩;apply List.ext_getElem?;intro j;rw [List.getElem?_take];by_cases h:j < n * size
 · rw [if_pos h,Array.getElem?_toList];exact hx j h
 · rw [if_neg h,List.getElem?_eq_none (by omega)]
theorem own_rowE {w:World} {base size n:Nat} {e:TypeId} {v:Value} {xs:List Value} (h:w.ownsRow base e size v n xs) (h0:0 < n):∃ g cap cur,v = .slice (some ⟨g,0,none⟩) n cap∧base ≤ g∧w.heap[g]? = some (.cells cur e (0,0))∧n ≤ cap∧cap ≤ maxLen ∧
 cur.size = cap * size∧∀ j,j < n * size → cur[j]? = xs[j]?:=by
 rcases h.2 with ⟨_,e0⟩ | ⟨g,cap,cur,h1,h2,h3,h4,h5,h6,h7⟩
 · omega
 · refine ⟨g,cap,cur,h1,h2,h3,h4,h5,h6,fun j hj => ?_⟩;rw [← h7,List.getElem?_take,if_pos hj,Array.getElem?_toList]
theorem cell_of_row {w:World} {g j:Nat} {cur:Array Value} {e:TypeId} {fr:Nat × Nat} (h:w.heap[g]? = some (.cells cur e fr)):w.cell? ⟨g,j,none⟩ = cur[j]?:=by
 simp [World.cell?,h]
theorem frozen_of_row {w:World} {g j:Nat} {cur:Array Value} {e:TypeId} (h:w.heap[g]? = some (.cells cur e (0,0))):w.frozen? ⟨g,j,none⟩ = false:=by
 simp [World.frozen?,h]
def zE:Ent:=([],[],[],0,[])
theorem zeroCells_ent (k:Nat):(Builtin.zeroCells (Value.agg #[.string ⟨#[]⟩,.string ⟨#[]⟩,.string ⟨#[]⟩,.int .i64 0,.string ⟨#[]⟩]).cells k).toList = enW (List.replicate k zE):=by
 apply List.ext_getElem?;intro j;by_cases h:j < k * 5
 · have e1:(enW (List.replicate k zE))[j]? = (enQ zE)[j % 5]?:=by
    have hi:j / 5 < (List.replicate k zE).length:=by rw [List.length_replicate];omega
    have:=enW_at (List.replicate k zE) (j / 5) (j % 5) hi (by omega);rw [show j / 5 * 5 + j % 5 = j by omega] at this;rw [this,List.getElem_replicate]
   rw [e1];have hm:j % 5 < 5:=Nat.mod_lt _ (by decide);have e2:(Builtin.zeroCells (Value.agg #[.string ⟨#[]⟩,.string ⟨#[]⟩,.string ⟨#[]⟩,.int .i64 0,.string ⟨#[]⟩]).cells k).toList[j]? = some ((Value.agg #[.string ⟨#[]⟩,.string ⟨#[]⟩,.string ⟨#[]⟩,.int .i64 0,.string ⟨#[]⟩]).cells[j % 5]!):=by
    unfold Builtin.zeroCells;have h2:j < k * (Value.agg #[.string ⟨#[]⟩,.string ⟨#[]⟩,.string ⟨#[]⟩,.int .i64 0,.string ⟨#[]⟩]).cells.size:=h;simp only [Array.toList_map,List.getElem?_map,Array.getElem?_toList];rw [show (Array.range (k * (Value.agg #[.string ⟨#[]⟩,.string ⟨#[]⟩,.string ⟨#[]⟩,.int .i64 0,.string ⟨#[]⟩]).cells.size))[j]? = some j by simp [h2]];rfl
   rw [e2];match j % 5,hm with
   | 0,_ => rfl
   | 1,_ => rfl
   | 2,_ => rfl
   | 3,_ => rfl
   | 4,_ => rfl
 · rw [List.getElem?_eq_none (l:=enW (List.replicate k zE)) (by rw [enW_len,List.length_replicate];omega),List.getElem?_eq_none];unfold Builtin.zeroCells;rw [Array.length_toList,Array.size_map,Array.size_range];show k * 5 ≤ j;omega
theorem zv_ent (w:World):(zeroValue 36).run Tryz.prog w = .ok (.agg #[.string ⟨#[]⟩,.string ⟨#[]⟩,.string ⟨#[]⟩,.int .i64 0,.string ⟨#[]⟩]) w:=by kernel_rfl
theorem run_clear_ent (w:World) (ty:TypeId) (g o n c:Nat) (cur:Array Value) (hg:w.heap[g]? = some (.cells cur 36 (0,0))) (hn:0 < n) (hc:o + n * 5 ≤ cur.size) :
 (Builtin.clear_ #[22] ty #[.slice (some ⟨g,o,none⟩) n c]).run Tryz.prog w = .ok (.tuple #[]) (w.setCells g o (enW (List.replicate n zE))):=by
 have hl:(enW (List.replicate n zE)).length = n * 5:=by rw [enW_len,List.length_replicate]
 have hst:=run_storeCells_cells (P:=Tryz.prog) g o (enW (List.replicate n zE)) 0 w (fun j hj => by
  rw [hl] at hj;rw [Nat.add_zero,cell_of_row hg,Array.getElem?_eq_getElem (by omega)];rfl) (fun j _ => frozen_of_row hg) (enW_one _)
 simp only [Nat.add_zero] at hst;have hzc:=zeroCells_ent n;obtain ⟨m,rfl⟩:∃ m,n = m + 1:=⟨n - 1,by omega⟩;have hz:=zv_ent;simp only [Builtin.clear_,List.getElem?_toArray,List.getElem?_cons_zero,Sem.run_bind,run_underlying Tryz.underlying22,Result.andThen_ok,hz,hzc,hst,Sem.run_pure]
theorem Bl.toGr {w w':World} (h:Bl w w') (row:Option Nat):w.grownBy w' row:=⟨h.os,h.tape,h.output,h.size,fun k hk _ => h.block k hk⟩
theorem gr_bl {a b c:World} {row:Option Nat} (h:a.grownBy b row) (k:Bl b c):a.grownBy c row:=World.grownBy.trans h (Bl.toGr k row)
theorem bl_gr {a b c:World} {row:Option Nat} (h:Bl a b) (k:b.grownBy c row):a.grownBy c row:=World.grownBy.trans (Bl.toGr h row) k
theorem ens_hA {w:World} {ao:Option Addr} {l:List Ent} (hA:∀ i (h:i < l.length),∃ g o,ao = some ⟨g,o,none⟩∧g < w.heap.size∧w.cell? ⟨g,o + i * 5,none⟩ = some (.string ⟨(eI l[i]).toArray⟩)∧w.cell? ⟨g,o + i * 5 + 1,none⟩ = some (.string ⟨(eT l[i]).toArray⟩) ∧
 w.cell? ⟨g,o + i * 5 + 2,none⟩ = some (.string ⟨(eL l[i]).toArray⟩)∧w.cell? ⟨g,o + i * 5 + 3,none⟩ = some (.int .i64 (eA l[i]))∧w.cell? ⟨g,o + i * 5 + 4,none⟩ = some (.string ⟨(eH l[i]).toArray⟩)) :
 ∀ i, i < l.length → ∃ g o, ao = some ⟨g, o, none⟩ ∧ g < w.heap.size ∧ w.cell? ⟨g, o + i * 5, none⟩ = some ((fun i => Value.string ⟨(eI (l.getD i zE)).toArray⟩) i) ∧ w.cell? ⟨g, o + i * 5 + 1, none⟩ = some ((fun i => Value.string ⟨(eT (l.getD i zE)).toArray⟩) i) ∧
   w.cell? ⟨g,o + i * 5 + 2,none⟩ = some ((fun i => Value.string ⟨(eL (l.getD i zE)).toArray⟩) i)∧w.cell? ⟨g,o + i * 5 + 3,none⟩ = some ((fun i => Value.int .i64 (eA (l.getD i zE))) i)∧w.cell? ⟨g,o + i * 5 + 4,none⟩ = some ((fun i => Value.string ⟨(eH (l.getD i zE)).toArray⟩) i):=by
 intro i hi;obtain ⟨g,o,h1,h2,h3⟩:=hA i hi;refine ⟨g,o,h1,h2,?_⟩;simp only [getD_get _ _ _ hi];exact h3
theorem ixB_pl (l:List Ent) (id:Nm):ixB (fun i => decide (eI (l.getD i zE) = id)) l.length = plI l id:=by
 unfold plI;cases h:plE l id with
 | none =>
   refine ixB_miss _ _ (fun j hj => ?_);rw [getD_get _ _ _ hj];exact decide_eq_false (plE_none h _ (List.getElem_mem hj))
 | some k =>
   obtain ⟨hk,he,hb⟩:=List.findIdx?_eq_some_iff_getElem.1 h;refine ixB_hit _ _ k hk ?_ (fun j hj => ?_)
   · rw [getD_get _ _ _ hk];simpa using he
   · rw [getD_get _ _ _ (by omega)];have:=hb j hj;exact decide_eq_false (by simpa using this)
theorem cf_place:∀ (args:Array Value) (W:World),Sem.run Tryz.prog (callFunc 46 args) W = .ok (.enter 46 args) W:=by
 intro args W;simp [callFunc,go_sem,Tryz.func46,Tryz.f46]
theorem placeOne_c (x:Ent) (id:Nm) (q:Nat) (w:World) (hq:B1 w q (.string ⟨id.toArray⟩)) :
 Calls Tryz.prog 46 #[enV x,.pointer (some ⟨q,0,none⟩)] w fun e w' => e = .returned (.bool (decide (eI x = id)))∧Bl w w':=by
 obtain ⟨hql,hqc⟩:=hq;unfold enV;go_enter Tryz.func46,Tryz.ntmps46;go_wp2;go_ret;exact ⟨ret_bool (str_eqb _ _),(Bl.refl _).alloc _⟩
theorem keep_cells {w:World} {b:Nat} {ve vr:Value} {t:TypeId} (h:w.heap[b]? = some (.cells #[ve,vr] t)):b < w.heap.size∧w.cell? ⟨b,0,none⟩ = some ve∧w.cell? ⟨b,1,none⟩ = some vr :=
 ⟨(Array.getElem?_eq_some_iff.1 h).1,by simp [World.cell?,h],by simp [World.cell?,h]⟩
theorem place_c (es:List Ent) (ve vr:Value) (b:Nat) (id:Nm) (hl:es.length ≤ 1000000) (w:World) (hb:w.heap[b]? = some (.cells #[ve,vr] 57)) (hE:EnS w ve es) :
 Calls Tryz.prog 25 #[.pointer (some ⟨b,0,none⟩),.string ⟨id.toArray⟩] w fun e w' => e = .returned (.int .i64 (plI es id))∧Bl w w':=by
 obtain ⟨hbl,hb0,hb1⟩:=keep_cells hb;have hE1:=hE.of_bl ((Bl.refl _).alloc (.cells #[.string ⟨id.toArray⟩] 9));obtain ⟨ao,cap,rfl,-,hA⟩:=hE1;have IC:=Lib.hid (indexF_E _ #[.pointer (some ⟨w.heap.size,0,none⟩)] cf_place es.length cap ao _ _ _ _ _ (fun i => decide (eI (es.getD i zE) = id)) (by omega) _ (ens_hA hA) (fun i _ W hW => placeOne_c (es.getD i zE) id w.heap.size W (B1.of_bl ⟨by simp,by simp⟩ hW)));rw [ixB_pl] at IC;clear hA hE;go_enter Tryz.func25,Tryz.ntmps25;go_wp2_with (go_at_call 45; (with_reducible refine IC.out.mono ?_);rintro e w1 ⟨rfl,hb2⟩);go_ret;exact ⟨rfl,((Bl.refl _).alloc _).trans hb2⟩
theorem step_append_fits {P:Program} {ops:Array Oper} {o:Oper} {a:Act} {w:World} {K:Act → World → Prop} {Q:Exit → Act → World → Prop} {E:Prop}
 (hgd:o.guard = none) (s x:Operand) (t:TypeId) (hop:o.op = Op.call { callee:=Callee.builtin Builtin.append,args:=#[s,x],argTypes:=#[t,t] })
 (base:Nat) (e:TypeId) (i:TypeInfo) (size:Nat) (ht:P.underlying t = some (.slice e)) (hi:P.info? e = some i) (hsize:i.size = size)
 (g n cap:Nat) (xs:List Value) (hs:a.eval s = .slice (some ⟨g,0,none⟩) n cap) (hown:w.ownsRow base e size (.slice (some ⟨g,0,none⟩) n cap) n xs)
 (ad:Addr) (m c:Nat) (news:List Value) (hx:a.eval x = .slice (some ad) m c) (hl:news.length = m * size) (hnews:∀ j u,news[j]? = some u → w.cell? (ad.add j) = some u) (h1:∀ u ∈ news,u.oneCell' = true)
 (hroom:n + m ≤ cap)
 (hK:∀ w', w'.ownsRow base e size (.slice (some ⟨g,0,none⟩) (n + m) cap) (n + m) (xs ++ news) → w.grownBy w' (some g) → K (a.put o.dst (.slice (some ⟨g,0,none⟩) (n + m) cap)) w') :
 if Region.wanted o (yielded ops a.tmps) = true then Oper.wp P o a w K Q else E:=by
 have hw:Region.wanted o (yielded ops a.tmps) = true:=by simp [Region.wanted,hgd]
 rw [if_pos hw];obtain ⟨w', hrun,h2,h3⟩:=run_append_fits (P:=P) w base t o.type e i size ht hi hsize g n cap xs hown ad m c news hl hnews h1 hroom;unfold Oper.wp;simp [execOp,hop,resolve,invoke,builtin,hs,hx,hrun,Result.andThen];exact hK w' h2 h3
theorem enW_take (l:List Ent) (i:Nat) (h:i ≤ l.length):enW (l.take i) = (enW l).take (i * 5):=by
 have h1:(enW l).take (i * 5) = (enW (l.take i) ++ enW (l.drop i)).take (i * 5):=by rw [← enW_app,List.take_append_drop]
 rw [h1,List.take_left' (by rw [enW_len,List.length_take];omega)]
theorem enW_drop (l:List Ent) (i:Nat) (h:i ≤ l.length):enW (l.drop i) = (enW l).drop (i * 5):=by
 have h1:(enW l).drop (i * 5) = (enW (l.take i) ++ enW (l.drop i)).drop (i * 5):=by rw [← enW_app,List.take_append_drop]
 rw [h1,List.drop_left' (by rw [enW_len,List.length_take];omega)]
theorem own_rowS {w:World} {base size n g cap:Nat} {e:TypeId} {xs:List Value} (h:w.ownsRow base e size (.slice (some ⟨g,0,none⟩) n cap) n xs):base ≤ g∧∃ cur,w.heap[g]? = some (.cells cur e (0,0))∧n ≤ cap∧cap ≤ maxLen ∧
 cur.size = cap * size∧∀ j,j < n * size → cur[j]? = xs[j]?:=by
 rcases h.2 with ⟨e0,_⟩ | ⟨g', cap', cur,h1,h2,h3,h4,h5,h6,h7⟩
 · cases e0
 · cases h1;refine ⟨h2,cur,h3,h4,h5,h6,fun j hj => ?_⟩;rw [← h7,List.getElem?_take,if_pos hj,Array.getElem?_toList]
theorem delE_c (base:Nat) (l:List Ent) (v:Value) (i:Nat) (hi':i < l.length) (hl:l.length ≤ 1000000) (w:World) (hO:EnO w base v l) :
 Calls Tryz.prog 55 #[v,.int .i64 i,.int .i64 ((i:Int) + 1)] w fun e w' => ∃ v', e = .returned v' ∧ EnO w' base v' (delA l i)∧v'.ownBlock = v.ownBlock∧w.grownBy w' v.ownBlock:=by
 obtain ⟨i0,hi,hz0,hz1,hz2⟩:=info_parts Tryz.infoEnt;obtain ⟨g,cap,cur,rfl,hbg,hg,hnc,hcm,hcs,hcur⟩:=own_rowE hO (by omega);have hgl:g < w.heap.size:=(Array.getElem?_eq_some_iff.1 hg).1;obtain ⟨m,hm⟩:∃ m,l.length = i + 1 + m:=⟨l.length - (i + 1),by omega⟩;have hdl:(l.drop (i + 1)).length = m:=by rw [List.length_drop];omega
 have htl:(l.take i).length = i:=by rw [List.length_take];omega
 have hown0:w.ownsRow base 36 5 (.slice (some ⟨g,0,none⟩) i cap) i (enW (l.take i)):=by
  refine own_mk hbg hg (by omega) hcm hcs (by rw [enW_len,htl]) (fun j hj => ?_);rw [hcur j (by omega),enW_take l i (by omega),List.getElem?_take,if_pos hj]
 obtain ⟨A,hA,hsrc⟩:∃ A:Addr,(if cap = i + 1 then (some ⟨g,0,none⟩:Option Addr) else some ⟨g,(i + 1) * 5,none⟩) = some A∧Hid (∀ j u,(enW (l.drop (i + 1)))[j]? = some u → w.cell? (A.add j) = some u):=by
  by_cases h:cap = i + 1
  · refine ⟨⟨g,0,none⟩,by rw [if_pos h],Lib.hid (fun j u hu => ?_)⟩;have h0:m = 0:=by omega
    rw [List.eq_nil_of_length_eq_zero (hdl.trans h0)] at hu;simp [enW] at hu
  · refine ⟨⟨g,(i + 1) * 5,none⟩,by rw [if_neg h],Lib.hid (fun j u hu => ?_)⟩;rw [addr_at,cell_of_row hg];have hj:j < m * 5:=by
     have:=(List.getElem?_eq_some_iff.1 hu).1;rw [enW_len,hdl] at this;exact this
    rw [hcur _ (by omega),← hu,enW_drop l (i + 1) (by omega),List.getElem?_drop]
 have hlen:=Lib.hid (show (delA l i).length = i + m by rw [len_delA l i hi'];omega);have henW:=Lib.hid (show enW (delA l i) = enW (l.take i) ++ enW (l.drop (i + 1)) by unfold delA;rw [enW_app]);have hdl5:=Lib.hid (show (enW (l.drop (i + 1))).length = m * 5 by rw [enW_len,hdl]);have hone:=Lib.hid (enW_one (l.drop (i + 1)));have HO0:=Lib.hid hown0;have hic:i + m ≤ cap:=by omega
 have hic1:i + 1 ≤ cap:=by omega
 have hii:i ≤ cap:=by omega
 have hz3:(0:Int) ≤ (i:Int) + 1:=by omega
 have hz4:(i:Int) + 1 ≤ (i:Int) + 1 + (m:Int):=by omega
 have hic2:¬ cap = i + m:=by omega
 have hll:l.length - (i + 1) = m:=by omega
 have hl1:(l.length:Int) = (i:Int) + 1 + (m:Int):=by omega
 have hw1:IntKind.i64.wrap ((i:Int) + 1) = (i:Int) + 1:=by rw [IntKind.wrap_i64];omega
 clear hO hg hcur hown0 htl hdl;go_enter Tryz.func55,Tryz.ntmps55;go_wp2_with fail
 go_region_law (go_loud (refine step_append_fits rfl (.tmp 22) (.tmp 25) 22 rfl base 36 i0 5 Tryz.underlying22 hi hz1 g i cap (enW (l.take i)) (by simp [Act.eval,Act.put]) (own_bl HO0.out ((Bl.refl _).drew)) A m (cap - (i + 1)) (enW (l.drop (i + 1))) (by simp [Act.eval,Act.put]) hdl5.out hsrc.out hone.out hic ?_;intro w1 hown1 hgr1))
 obtain ⟨_,cur1,hg1,_,_,hcs1,hcur1⟩:=own_rowS hown1;have hcl:=fun ty c => run_clear_ent w1 ty g ((i + m) * 5) 1 c cur1 hg1 (by decide) (by rw [hcs1];omega)
 have hsub:i + 1 + m - (i + m) = 1:=by omega
 have hz5:(i:Int) + (m:Int) ≤ (i:Int) + 1 + (m:Int):=by omega
 have hz6:(i:Int) + 1 + (m:Int) ≤ (cap:Int):=by omega
 have hz7:(0:Int) ≤ (i:Int) + (m:Int):=by omega
 have hz8:((i:Int) + 1 + (m:Int)).toNat = i + 1 + m:=by omega
 have hz9:((i:Int) + (m:Int)).toNat = i + m:=by omega
 have hz10:(0:Int) ≤ (i:Int) + 1 + (m:Int):=by omega
 obtain ⟨cur2,hg2,hcs2,hcur2⟩:=setCells_hp g _ _ (enW (List.replicate 1 zE)) ((i + m) * 5) w1 cur1 hg1;have HG2:=Lib.hid hg2;have HC2:=Lib.hid hcur2;have HCS2:=Lib.hid hcs2;have HO1:=Lib.hid hown1;have HGR:=Lib.hid hgr1;obtain ⟨w2,hw2⟩:∃ w2,w2 = w1.setCells g ((i + m) * 5) (enW (List.replicate 1 zE)):=⟨_,rfl⟩;have HW2:=Lib.hid hw2;rw [← hw2] at hcl;clear hg2 hcur2 hcs2 hown1 hgr1 hw2;go_wp2;go_ret;have hgr2:w.grownBy w2 (some g):=by
  rw [HW2.out];exact World.grownBy.trans (bl_gr ((Bl.refl _).drew) HGR.out) (setCells_gr _ _ _ _)
 refine ⟨_,rfl,?_,rfl,hgr2⟩;unfold EnO;rw [hlen.out,henW.out];rw [← HW2.out] at HG2;refine own_mk hbg HG2.out (by omega) hcm (by rw [HCS2.out,hcs1]) HO1.out.1 (fun j hj => ?_);rw [HC2.out j,if_neg (by omega)];exact hcur1 j hj
end Go.Proofs.YthnpljkekhieiaaGreatDoor
namespace Go.Proofs.YthnpljkekhieiaaGreatDoor
open Go.RowKit Go.Sort
theorem cf_order:∀ (args:Array Value) (W:World),Sem.run Tryz.prog (callFunc 32 args) W = .ok (.enter 32 args) W:=by
 intro args W;simp [callFunc,go_sem,Tryz.func32,Tryz.f32]
theorem bl_grow2 {w wr:World} (h:Bl w wr) (n:Nat) (os:Array Obj):Bl w (Sort.grow (wr.drewN n) os):=h.trans (bl_grow _ _ _)
theorem bsf_c (l:List Ent) (v:Value) (x:Ent) (hl:l.length ≤ 1000000) (hT:∀ y ∈ l,Tm y) (hx:Tm x) (w:World) (hA:EnS w v l) :
 Calls Tryz.prog 56 #[v,enV x,.func (.func 32) #[] #[]] w fun e w' => ∃ B:Bool,e = .returned (.tuple #[.int .i64 (bsE l x),.bool B])∧Bl w w':=by
 obtain ⟨ao,cap,rfl,hcap,hA⟩:=hA;have hcf:=cf_order;have hmix:Tryz.prog.follows .mixedOrders = true:=by kernel_rfl
 have HT:=Lib.hid hT;have OC0:=fun (y:Ent) (hy:Tm y) W => order_c y x hy hx W
 unfold enV at OC0 ⊢;have OC:=Lib.hid OC0;have hB0:=B5.new w x 36;have hb0:Bl w (w.alloc (enO x 36)):=(Bl.refl _).alloc _;unfold enO at hB0 hb0;have HB0:=Lib.hid hB0;obtain ⟨I,hI⟩:∃ I,I = bsE l x:=⟨_,rfl⟩;have HI:=Lib.hid hI;rw [← hI];clear OC0 hT hB0 hI hx;go_enter Tryz.func56,Tryz.ntmps56;go_wp2
 go_loopg [9,10] l.length (fun gg s9 s10 wr => ∃ lo hi:Nat,s9 = .int .i64 lo∧s10 = .int .i64 hi∧lo ≤ hi∧hi ≤ l.length∧hi - lo ≤ gg∧Bl (w.alloc (.cells #[.string ⟨(eI x).toArray⟩,.string ⟨(eT x).toArray⟩,.string ⟨(eL x).toArray⟩,.int .i64 (eA x),.string ⟨(eH x).toArray⟩] 36)) wr ∧
  Hid (Lib.bsGo (fun t => decide (ordE (l.getD t default) x < 0)) gg lo hi = I))
 case atStart => exact ⟨0,l.length,rfl,rfl,Nat.zero_le _,Nat.le_refl _,by omega,Bl.refl _,Lib.hid HI.out.symm⟩
 case round =>
  obtain ⟨lo,hi,rfl,rfl,hlh,hin,hg,hbl,HP⟩:=hrel;have hbw:=hb0.trans hbl;obtain ⟨q0,q1,q2,q3,q4,q5⟩:=HB0.out.of_bl hbl;by_cases hlt:lo < hi
  · obtain ⟨k,hk⟩:∃ k,k = (lo + hi) / 2:=⟨_,rfl⟩;have hkl:k < l.length:=by omega
    obtain ⟨g,o,rfl,hgl,h1,h2,h3,h4,h5⟩:=hA k hkl;have x1:=(hbw.cells.1 g _ hgl).trans h1;have x2:=(hbw.cells.1 g _ hgl).trans h2;have x3:=(hbw.cells.1 g _ hgl).trans h3;have x4:=(hbw.cells.1 g _ hgl).trans h4;have x5:=(hbw.cells.1 g _ hgl).trans h5;have hgw:g < wr.heap.size:=Nat.lt_of_lt_of_le hgl (Below.size hbw);obtain ⟨gj,hgj⟩:∃ gj,gk = gj + 1:=⟨gk - 1,by omega⟩;have HP2:=Lib.hid (show (if decide (ordE l[k] x < 0) = true then Lib.bsGo (fun t => decide (ordE (l.getD t default) x < 0)) gj (k + 1) hi else Lib.bsGo (fun t => decide (ordE (l.getD t default) x < 0)) gj lo k) = I by
     have:=HP.out;rw [hgj,Lib.bsGo,if_pos hlt,← hk] at this;rw [getD_get _ _ _ hkl] at this;exact this)
    have hty:=HT.out l[k] (List.getElem_mem hkl);have OK0:=OC.out l[k] hty;obtain ⟨y,hy⟩:∃ y,y = l[k]:=⟨_,rfl⟩;rw [← hy] at x1 x2 x3 x4 x5 HP2 OK0;obtain ⟨q,hq⟩:∃ q,q = ordE y x:=⟨_,rfl⟩;rw [← hq] at HP2 OK0;have OK:=Lib.hid OK0;have G0:=fun n os => cell_grown (a:=⟨g,o + k * 5,none⟩) hgw x1 n os
    have G1:=fun n os => cell_grown (a:=⟨g,o + k * 5 + 1,none⟩) hgw x2 n os
    have G2:=fun n os => cell_grown (a:=⟨g,o + k * 5 + 2,none⟩) hgw x3 n os
    have G3:=fun n os => cell_grown (a:=⟨g,o + k * 5 + 3,none⟩) hgw x4 n os
    have G4:=fun n os => cell_grown (a:=⟨g,o + k * 5 + 4,none⟩) hgw x5 n os
    have K0:=fun n os => cell_grown (a:=⟨w.heap.size,0,none⟩) q0 q1 n os
    have K1:=fun n os => cell_grown (a:=⟨w.heap.size,1,none⟩) q0 q2 n os
    have K2:=fun n os => cell_grown (a:=⟨w.heap.size,2,none⟩) q0 q3 n os
    have K3:=fun n os => cell_grown (a:=⟨w.heap.size,3,none⟩) q0 q4 n os
    have K4:=fun n os => cell_grown (a:=⟨w.heap.size,4,none⟩) q0 q5 n os
    have hdiv:((lo:Int) + (hi:Int)) / 2 = (k:Int):=by omega
    have hk1:k < hi:=by omega
    have hk2:lo ≤ k:=by omega
    have HK:=Lib.hid hk;have HGJ:=Lib.hid hgj;clear h1 h2 h3 h4 h5 hA hk hy hq OK0 x1 x2 x3 x4 x5 hgj hty;by_cases hq0:q < 0
    · have HF:=Lib.hid (show Lib.bsGo (fun t => decide (ordE (l.getD t default) x < 0)) gj (k + 1) hi = I by have:=HP2.out;rw [if_pos (decide_eq_true hq0)] at this;exact this);go_upto_region 5 with fail;refine wp_region_quiet_grown hmix (by kernel_rfl) ?_;repeat (quiet_step (((with_reducible refine Calls.grown_of (grown_two (OK.out _))))))
      refine wpQuiet_nil ?_;intro _ hw';obtain ⟨⟨nq,osq⟩,hw''⟩:=hw';subst hw'';clear G0 G1 G2 G3 G4 K0 K1 K2 K3 K4;go_wp2
      go_roundg gj
      case measure => have:=HGJ.out;omega
      case rel => exact ⟨k + 1,hi,by first | rfl | (push_cast;rfl),rfl,by omega,hin,by have:=HGJ.out;omega,bl_grow2 hbl _ _,HF⟩
    · have HF:=Lib.hid (show Lib.bsGo (fun t => decide (ordE (l.getD t default) x < 0)) gj lo k = I by have:=HP2.out;rw [if_neg (by simpa using hq0)] at this;exact this);go_upto_region 5 with fail;refine wp_region_quiet_grown hmix (by kernel_rfl) ?_;repeat (quiet_step (((with_reducible refine Calls.grown_of (grown_two (OK.out _))))))
      refine wpQuiet_nil ?_;intro _ hw';obtain ⟨⟨nq,osq⟩,hw''⟩:=hw';subst hw'';clear G0 G1 G2 G3 G4 K0 K1 K2 K3 K4;go_wp2
      go_roundg gj
      case measure => have:=HGJ.out;omega
      case rel => exact ⟨lo,k,rfl,rfl,by omega,by omega,by have:=HGJ.out;have:=HK.out;omega,bl_grow2 hbl _ _,HF⟩
  · have hI:I = lo:=by
     have:=HP.out;rw [← this];cases gk with
     | zero => rfl
     | succ gj => rw [Lib.bsGo,if_neg hlt]
    have HII:=Lib.hid hI;clear hI;have hlo:lo = hi:=by omega
    subst hlo;by_cases hn:lo < l.length
    · obtain ⟨g,o,rfl,hgl,h1,h2,h3,h4,h5⟩:=hA lo hn;have x1:=(hbw.cells.1 g _ hgl).trans h1;have x2:=(hbw.cells.1 g _ hgl).trans h2;have x3:=(hbw.cells.1 g _ hgl).trans h3;have x4:=(hbw.cells.1 g _ hgl).trans h4;have x5:=(hbw.cells.1 g _ hgl).trans h5;have hgw:g < wr.heap.size:=Nat.lt_of_lt_of_le hgl (Below.size hbw);have hty:=HT.out l[lo] (List.getElem_mem hn);have OK0:=OC.out l[lo] hty;obtain ⟨y,hy⟩:∃ y,y = l[lo]:=⟨_,rfl⟩;rw [← hy] at x1 x2 x3 x4 x5 OK0;obtain ⟨q,hq⟩:∃ q,q = ordE y x:=⟨_,rfl⟩;rw [← hq] at OK0;have OK:=Lib.hid OK0;have G0:=fun n os => cell_grown (a:=⟨g,o + lo * 5,none⟩) hgw x1 n os
      have G1:=fun n os => cell_grown (a:=⟨g,o + lo * 5 + 1,none⟩) hgw x2 n os
      have G2:=fun n os => cell_grown (a:=⟨g,o + lo * 5 + 2,none⟩) hgw x3 n os
      have G3:=fun n os => cell_grown (a:=⟨g,o + lo * 5 + 3,none⟩) hgw x4 n os
      have G4:=fun n os => cell_grown (a:=⟨g,o + lo * 5 + 4,none⟩) hgw x5 n os
      have K0:=fun n os => cell_grown (a:=⟨w.heap.size,0,none⟩) q0 q1 n os
      have K1:=fun n os => cell_grown (a:=⟨w.heap.size,1,none⟩) q0 q2 n os
      have K2:=fun n os => cell_grown (a:=⟨w.heap.size,2,none⟩) q0 q3 n os
      have K3:=fun n os => cell_grown (a:=⟨w.heap.size,3,none⟩) q0 q4 n os
      have K4:=fun n os => cell_grown (a:=⟨w.heap.size,4,none⟩) q0 q5 n os
      clear h1 h2 h3 h4 h5 hA hy hq OK0 x1 x2 x3 x4 x5 hty;go_upto_region 8 with fail;refine wp_region_quiet_grown hmix (by kernel_rfl) ?_;repeat (quiet_step (((with_reducible refine Calls.grown_of (grown_two (OK.out _))))))
      refine wpQuiet_nil ?_;intro _ hw';obtain ⟨⟨nq,osq⟩,hw''⟩:=hw';subst hw'';clear G0 G1 G2 G3 G4 K0 K1 K2 K3 K4;go_wp2;go_ret2;have hI2:=HII.out;subst hI2;exact ⟨_,rfl,bl_grow2 hbw _ _⟩
    · have hn':¬ (lo:Int) < (l.length:Int):=by omega
      clear hA;go_upto_region 8 with fail;go_quiet (fail);go_wp2;go_ret2;have hI2:=HII.out;subst hI2;exact ⟨.inl rfl,hbw.drewN _⟩
end Go.Proofs.YthnpljkekhieiaaGreatDoor

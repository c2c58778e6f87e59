/- Shelves: slices.Insert of one Ent. · Shelves: slices.Insert of one Ent that does not fit. · Shelves: slices.Insert of one Nm. · Shelves: slices.Insert of one Nm that does not fit. · Shelves: slices.Insert at any place; what keeps a keeper. -/
import Derived.Test.YthnpljkekhieiaaGreatDoorGrpS
import Derived.Shelf.Spec.SlicesInsertGrow
set_option maxRecDepth 100000
set_option maxHeartbeats 4000000
namespace Go.Proofs.YthnpljkekhieiaaGreatDoor
open Go.RowKit
theorem run_copy_cellsK {P:Program} (w:World) (dT sT ty elem:TypeId) (size b o dLen dCap:Nat) (a:Addr) (sLen sCap k:Nat) (cs:List Value)
 (hu:P.underlying dT = some (.slice elem)) (hs:(P.info? elem).map (·.size) = some size) (hk:k = Nat.min sLen dLen) (hn:cs.length = k * size)
 (hsrc:∀ j v,cs[j]? = some v → w.cell? (a.add j) = some v) (hc:∀ j,j < cs.length → (w.cell? ⟨b,o + j,none⟩).isSome = true) (hf:∀ j,j < cs.length → w.frozen? ⟨b,o + j,none⟩ = false) (h1:∀ v ∈ cs,v.oneCell' = true) :
 (Builtin.copy_ #[dT,sT] ty #[.slice (some ⟨b,o,none⟩) dLen dCap,.slice (some a) sLen sCap]).run P w = .ok (goInt k) (w.setCells b o cs):=by
 have hl:=run_firstCells_some (P:=P) w size k a sLen sCap cs hn hsrc;have hst:=run_storeCells_cells (P:=P) b o cs 0 w (by simpa using hc) (by simpa using hf) h1;simp only [Nat.add_zero] at hst;cases hq:P.info? elem with
 | none => simp [hq] at hs
 | some i =>
   have hi:i.size = size:=by simpa [hq] using hs
   have hz:(Go.sizeOf elem).run P w = .ok size w:=by simp [Go.sizeOf,typeInfo,hq,hi]
   simp [Builtin.copy_,run_underlying hu,Builtin.lenOf,hz,← hk,hl,hst]
theorem insE_end (base:Nat) (l:List Ent) (v:Value) (x:Ent) (vb:Nat) (hl:l.length ≤ 1000000) (w:World) (hO:EnO w base v l) (hv:∀ j u,(enQ x)[j]? = some u → w.cell? ((⟨vb,0,none⟩:Addr).add j) = some u) (hbw:base ≤ w.heap.size) :
 Calls Tryz.prog 57 #[v,.int .i64 l.length,.slice (some ⟨vb,0,none⟩) 1 1] w fun e w' => ∃ v', e = .returned v' ∧ EnO w' base v' (l ++ [x])∧w.grownBy w' v.ownBlock:=by
 obtain ⟨i0,hi,hz0,hz1,hz2⟩:=info_parts Tryz.infoEnt;have HO:=Lib.hid hO;have HV:=Lib.hid hv;have hWx:=Lib.hid (show enW (l ++ [x]) = enW l ++ enQ x by rw [enW_app];simp [enW]);obtain ⟨ao,cap,rfl,hnc⟩:=own_shp hO;clear hO hv;go_enter Tryz.func57,Tryz.ntmps57;go_wp2_with (at_builtin;refine wpList_append_own _ rfl _ _ 22 rfl base 36 i0 (.agg #[.string ⟨#[]⟩,.string ⟨#[]⟩,.string ⟨#[]⟩,.int .i64 0,.string ⟨#[]⟩]) 5 72 Tryz.underlying22 hi hz0 hz1 hz2 rfl (by decide) (.slice ao l.length cap) l.length (enW l) rfl HO.out ⟨vb,0,none⟩ 1 1 (enQ x) rfl rfl HV.out (enQ_one x) (by unfold maxLen;omega) (by omega) hbw ?_);all_goals
  intro v' w1 hown hgrow _;have HO2:=Lib.hid hown;have HG:=Lib.hid hgrow;clear hown hgrow;go_wp2;go_ret;refine ⟨_,rfl,?_,by cases ao <;> exact HG.out⟩;unfold EnO;rw [hWx.out,List.length_append,List.length_singleton];exact HO2.out
theorem insE_cells (l:List Ent) (i:Nat) (hi:i ≤ l.length) (x:Ent) (cur cur2:Array Value) (h0:∀ j,j < i * 5 → cur[j]? = (enW l)[j]?)
 (hs:(l.length + 1) * 5 ≤ cur.size) (cur1:Array Value) (hs1:cur1.size = cur.size)
 (h1:∀ j,cur1[j]? = if (i + 1) * 5 ≤ j∧j < (i + 1) * 5 + (enW (l.drop i)).length∧j < cur.size then (enW (l.drop i))[j - (i + 1) * 5]? else cur[j]?)
 (h2:∀ j,cur2[j]? = if i * 5 ≤ j∧j < i * 5 + (enQ x).length∧j < cur1.size then (enQ x)[j - i * 5]? else cur1[j]?) :
 ∀ j,j < (l.length + 1) * 5 → cur2[j]? = (enW (insA l i x))[j]?:=by
 intro j hj;have hl1:(enW (l.take i)).length = i * 5:=by rw [enW_len,List.length_take];omega
 have hl2:(enQ x).length = 5:=rfl;have hl3:(enW (l.drop i)).length = (l.length - i) * 5:=by rw [enW_len,List.length_drop]
 have hW:enW (insA l i x) = enW (l.take i) ++ (enQ x ++ enW (l.drop i)):=by
  unfold insA;rw [enW_app];congr 1
 rw [hW,h2 j,h1 j,hl2,hl3];by_cases c1:j < i * 5
 · rw [if_neg (by omega),if_neg (by omega),List.getElem?_append_left (by omega),h0 j c1,enW_take l i hi,List.getElem?_take,if_pos c1]
 · rw [List.getElem?_append_right (by omega),hl1];by_cases c2:j < i * 5 + 5
   · rw [if_pos ⟨by omega,by omega,by omega⟩,List.getElem?_append_left (by omega)]
   · rw [if_neg (by omega),if_pos ⟨by omega,by omega,by omega⟩,List.getElem?_append_right (by omega),hl2];congr 1;all_goals omega
theorem insE_shift (base:Nat) (l:List Ent) (x:Ent) (g cap vb i:Nat) (hil:i < l.length) (hl:l.length ≤ 1000000) (hroom:l.length + 1 ≤ cap) (w:World) (hO:EnO w base (.slice (some ⟨g,0,none⟩) l.length cap) l)
 (hv:w.heap[vb]? = some (.cells (enQ x).toArray 36 (0,0))) (hne:vb ≠ g) :
 Calls Tryz.prog 57 #[.slice (some ⟨g,0,none⟩) l.length cap,.int .i64 i,.slice (some ⟨vb,0,none⟩) 1 1] w fun e w' => ∃ v', e = .returned v' ∧ EnO w' base v' (insA l i x)∧w.grownBy w' (some g):=by
 obtain ⟨i0,hi,hz0,hz1,hz2⟩:=info_parts Tryz.infoEnt;have hlen:=hO.1;obtain ⟨hbg,cur,hg,hnc,hcm,hcs,hcur⟩:=own_rowS hO;have hsz:(Tryz.prog.info? 36).map (·.size) = some 5:=by rw [hi];simp [hz1]
 have hdl:(enW (l.drop i)).length = (l.length - i) * 5:=by rw [enW_len,List.length_drop]
 have hov:∀ lb cb,(callFunc 75 #[.slice (some ⟨vb,0,none⟩) 1 1,.slice (some ⟨g,(i + 1) * 5,none⟩) lb cb]).run Tryz.prog w = .ok (.value (.bool false)) w:=fun lb cb => by
  rw [run_callFunc_extern Tryz.func75 (by kernel_rfl) (by kernel_rfl) (by kernel_rfl) (e:=Extern.SlicesOverlaps.overlaps #[22,22] #[4]) (by kernel_rfl),
   Lib.run_overlaps_apart w 22 4 36 Tryz.underlying22 5 (fun w => by kernel_rfl) ⟨vb,0,none⟩ ⟨g,(i + 1) * 5,none⟩ 1 1 lb cb hne 36 36 (enQ x).toArray.size cur.size (by simp [World.shape?,hv]) (by simp [World.shape?,hg]) (by omega) (frozen_of_row hv) (frozen_of_row hv)]
  rfl
 have hmin1:l.length - i = Nat.min (l.length + 1 - i) (l.length - i):=by simp only [Nat.min_def];split <;> omega
 have hcp1:∀ ty dc sc,(Builtin.copy_ #[22,22] ty #[.slice (some ⟨g,(i + 1) * 5,none⟩) (l.length - i) dc,.slice (some ⟨g,i * 5,none⟩) (l.length + 1 - i) sc]).run Tryz.prog w.drew = .ok (goInt (l.length - i:Nat)) (w.drew.setCells g ((i + 1) * 5) (enW (l.drop i))):=fun ty dc sc =>
  run_copy_cellsK w.drew _ _ ty 36 5 g ((i + 1) * 5) _ dc ⟨g,i * 5,none⟩ _ sc (l.length - i) (enW (l.drop i)) Tryz.underlying22 hsz hmin1 hdl
   (fun j u hj => by
    rw [addr_at];have hjl:j < (l.length - i) * 5:=by rw [← hdl];exact (List.getElem?_eq_some_iff.1 hj).1
    show w.cell? _ = _;rw [cell_of_row hg,hcur _ (by omega),← hj,enW_drop l i (by omega),List.getElem?_drop])
   (fun j hj => by
    show (w.cell? _).isSome = true;rw [cell_of_row hg,Array.getElem?_eq_getElem (by omega)];rfl)
   (fun j _ => frozen_of_row (w:=w) hg) (enW_one _)
 obtain ⟨cur1,hg1,hs1,hc1⟩:=setCells_hp g _ _ (enW (l.drop i)) ((i + 1) * 5) w.drew cur hg;obtain ⟨W1,hW1⟩:∃ W1,W1 = w.drew.setCells g ((i + 1) * 5) (enW (l.drop i)):=⟨_,rfl⟩;rw [← hW1] at hcp1 hg1;have hvW:∀ j u,(enQ x)[j]? = some u → W1.cell? ((⟨vb,0,none⟩:Addr).add j) = some u:=fun j u hj => by
  rw [addr_at,hW1,World.cell?_setCells_out g _ _ _ _ (fun h _ => absurd h hne)];show w.cell? _ = _;rw [cell_of_row hv];simpa using hj
 have hcp2:∀ (W:World),(∀ x,W.cell? x = W1.cell? x) → (∀ x,W.frozen? x = W1.frozen? x) → ∀ ty dc,(Builtin.copy_ #[22,22] ty #[.slice (some ⟨g,i * 5,none⟩) (l.length + 1 - i) dc,.slice (some ⟨vb,0,none⟩) 1 1]).run Tryz.prog W = .ok (goInt (1:Nat)) (W.setCells g (i * 5) (enQ x)):=fun W hWc hWf ty dc =>
  run_copy_cellsK W _ _ ty 36 5 g (i * 5) _ dc ⟨vb,0,none⟩ 1 1 1 (enQ x) Tryz.underlying22 hsz (by simp only [Nat.min_def];split <;> omega) rfl
   (fun j u hj => by rw [hWc];exact hvW j u hj)
   (fun j hj => by
    have hj:j < 5:=hj;rw [hWc,cell_of_row hg1,Array.getElem?_eq_getElem (by omega)];rfl)
   (fun j _ => by rw [hWf];exact frozen_of_row hg1) (enQ_one x)
 have hres:∃ v', Value.slice (some ⟨g,0,none⟩) (l.length + 1) cap = v' ∧ EnO (W1.setCells g (i * 5) (enQ x)) base v' (insA l i x)∧w.grownBy (W1.setCells g (i * 5) (enQ x)) (some g):=by
  obtain ⟨cur2,hg2,hs2,hc2⟩:=setCells_hp g _ _ (enQ x) (i * 5) W1 cur1 hg1;refine ⟨_,rfl,?_,World.grownBy.trans (bl_gr ((Bl.refl _).drew) (by rw [hW1];exact setCells_gr _ _ _ _)) (setCells_gr _ _ _ _)⟩;unfold EnO;rw [len_insA];exact own_mk hbg hg2 (by omega) hcm (by rw [hs2,hs1,hcs]) (by rw [enW_len,len_insA]) (insE_cells l i (by omega) x cur cur2 (fun j hj => hcur j (by omega)) (by omega) cur1 hs1 hc1 hc2)
 have HRES:=Lib.hid hres;have hz3:¬ ((i:Int) = (l.length:Int)):=by omega
 have hw1:IntKind.i64.wrap ((i:Int) + 1) = (i:Int) + 1:=by rw [IntKind.wrap_i64];omega
 have hb1:(0:Int) ≤ (i:Int) + 1:=by omega
 have hin:i ≤ l.length:=by omega
 have htn:((i:Int) + 1).toNat = i + 1:=by omega
 have htn2:((l.length:Int) + 1).toNat = l.length + 1:=by omega
 have hb2:¬ (cap = i + 1):=by omega
 have hb3:(i:Int) ≤ (l.length:Int) + 1:=by omega
 have hb4:¬ (cap = i):=by omega
 have hb5:¬ ((cap:Int) < (l.length:Int) + 1):=by omega
 have hb6:(l.length:Int) + 1 ≤ (cap:Int):=by omega
 have hb7:(i:Int) + 1 ≤ (l.length:Int) + 1:=by omega
 have hb8:(0:Int) ≤ (l.length:Int) + 1:=by omega
 clear hO hg hcur hlen hdl hmin1 hg1 hs1 hc1 hvW hres hv hW1;go_enter Tryz.func57,Tryz.ntmps57;go_wp2_with (simp only [hov])
 go_region_law (refine step_copy_runI rfl _ _ 22 22 rfl _ _ (by simp [Act.eval,Act.put]) (by simp [Act.eval,Act.put]) (hcp1 _ _ _) ?_)
 go_wp2_with (at_builtin;refine wpList_copy_runI _ rfl _ _ 22 22 rfl _ _ rfl rfl (hcp2 _ (fun _ => rfl) (fun _ => rfl) _ _) ?_);go_ret;obtain ⟨v', hv', hr⟩:=HRES.out;exact ⟨v', congrArg Ending.returned hv', hr⟩
theorem drew_cell (W:World) (y:Addr):W.drew.cell? y = W.cell? y:=rfl
theorem drew_frozen (W:World) (y:Addr):W.drew.frozen? y = W.frozen? y:=rfl
theorem drew_heap (W:World) (k:Nat):W.drew.heap[k]? = W.heap[k]?:=rfl
theorem drew_os (W:World):W.drew.os = W.os:=rfl
theorem drew_tape (W:World):W.drew.tape = W.tape:=rfl
theorem drew_output (W:World):W.drew.output = W.output:=rfl
theorem drew_size (W:World):W.drew.heap.size = W.heap.size:=rfl
theorem insE_zs (n:Nat):(Builtin.zeroCells (Value.cells (.agg #[.string ⟨#[]⟩,.string ⟨#[]⟩,.string ⟨#[]⟩,.int .i64 0,.string ⟨#[]⟩])) n).size = n * 5:=by
 unfold Builtin.zeroCells;rw [Array.size_map,Array.size_range];rfl
theorem insE_row (base:Nat) (l:List Ent) (x:Ent) (g cap vb i:Nat) (hil:i < l.length) (hl:l.length ≤ 1000000) (hroom:cap < l.length + 1) (w:World) (hO:EnO w base (.slice (some ⟨g,0,none⟩) l.length cap) l)
 (_hv:w.heap[vb]? = some (.cells (enQ x).toArray 36 (0,0))) (_hbw:base ≤ w.heap.size) :
 ∃ (G : Nat) (ROW : Array Value), (∀ ty, (Builtin.append_ #[22, 3] ty #[.slice (some ⟨g, 0, none⟩) i cap, .int .i64 ((l.length : Int) + 1 - (i : Int))]).run Tryz.prog w =
   .ok (.slice (some ⟨w.heap.size,0,none⟩) (l.length + 1) G) (w.drew.alloc (.cells ROW 36)))∧l.length + 1 ≤ G∧G ≤ maxLen∧ROW.size = G * 5∧∀ j,j < i * 5 → ROW[j]? = (enW l)[j]?:=by
 obtain ⟨i0,hi,hz0,hz1,hz2⟩:=info_parts Tryz.infoEnt;obtain ⟨hbg,cur,hg,hnc,hcm,hcs,hcur⟩:=own_rowS hO;have htl:(enW (l.take i)).length = i * 5:=by rw [enW_len,List.length_take];omega
 have hkk:(l.length:Int) + 1 - (i:Int) = ((l.length + 1 - i:Nat):Int):=by omega
 have hik:i + (l.length + 1 - i) = l.length + 1:=by omega
 have hold:(Builtin.firstCells i0.size i (.slice (some ⟨g,0,none⟩) i cap)).run Tryz.prog w.drew = .ok (enW (l.take i)).toArray w.drew:=by
  rw [hz1];exact run_firstCells_some w.drew 5 i ⟨g,0,none⟩ i cap _ htl (fun j u hj => by
   rw [addr_at,Nat.zero_add];show w.cell? _ = _;have hjl:j < i * 5:=by rw [← htl];exact (List.getElem?_eq_some_iff.1 hj).1
   rw [cell_of_row hg,hcur _ (by omega),← hj,enW_take l i (by omega),List.getElem?_take,if_pos hjl])
 have hmx:=grownCap_le_maxLen w (l.length + 1) cap 36 (by unfold maxLen;omega);have hge:=grownCap_ge w (l.length + 1) cap 36;have hrz:=fun ty => Lib.run_append_grow_zeros w 22 3 ty 36 i0 _ .i64 .i64 Tryz.underlying22 Tryz.underlying3 hi hz0 (some ⟨g,0,none⟩) i cap (enW (l.take i)) hold (l.length + 1 - i) (by omega) (by omega) (by omega) (by omega) (by rw [hz2];omega) (by rw [hz2,hik];exact growslice_fits hroom (by omega))
 rw [hik] at hrz;rw [hkk];generalize grownCap w (l.length + 1) cap 36 = G at hrz hmx hge;refine ⟨G,_,hrz,hge,hmx,?_,fun j hj => ?_⟩
 · rw [Array.size_append,Array.size_append,insE_zs,insE_zs,List.size_toArray,htl];omega
 · rw [Array.getElem?_append_left (by rw [Array.size_append,insE_zs,List.size_toArray,htl];omega),Array.getElem?_append_left (by rw [List.size_toArray,htl];omega)];rw [List.getElem?_toArray,enW_take l i (by omega),List.getElem?_take,if_pos hj]
theorem insE_cpA (base:Nat) (l:List Ent) (x:Ent) (g cap vb i:Nat) (hil:i < l.length) (_hl:l.length ≤ 1000000) (_hroom:cap < l.length + 1) (w:World) (_hO:EnO w base (.slice (some ⟨g,0,none⟩) l.length cap) l)
 (hv:w.heap[vb]? = some (.cells (enQ x).toArray 36 (0,0))) (_hbw:base ≤ w.heap.size) (G:Nat) (ROW:Array Value) (hGn:l.length + 1 ≤ G) (hRs:ROW.size = G * 5) (W:World) (hWc:∀ y:Addr,W.cell? y = (w.drew.alloc (.cells ROW 36)).cell? y) (hWf:∀ y:Addr,W.frozen? y = (w.drew.alloc (.cells ROW 36)).frozen? y) (ty:TypeId) (dc:Nat) :
 (Builtin.copy_ #[22,22] ty #[.slice (some ⟨w.heap.size,i * 5,none⟩) (l.length + 1 - i) dc,.slice (some ⟨vb,0,none⟩) 1 1]).run Tryz.prog W = .ok (goInt (1:Nat)) (W.setCells w.heap.size (i * 5) (enQ x)):=by
 obtain ⟨i0,hi,hz0,hz1,hz2⟩:=info_parts Tryz.infoEnt;have hsz:(Tryz.prog.info? 36).map (·.size) = some 5:=by rw [hi];simp [hz1]
 have hvw:vb < w.heap.size:=(Array.getElem?_eq_some_iff.1 hv).1;generalize hW1:(w.drew.alloc (.cells ROW 36)) = W1 at hWc hWf;have hN:W1.heap[w.heap.size]? = some (.cells ROW 36 (0,0)):=by rw [← hW1];exact heap_alloc_new w.drew _
 have hcA:∀ j,W1.cell? ⟨vb,j,none⟩ = w.cell? ⟨vb,j,none⟩:=fun j => by
  rw [← hW1];exact World.cell?_alloc_past (w:=w.drew) _ vb j hvw
 exact run_copy_cellsK W _ _ ty 36 5 w.heap.size (i * 5) _ dc ⟨vb,0,none⟩ 1 1 1 (enQ x) Tryz.underlying22 hsz (by simp only [Nat.min_def];split <;> omega) rfl
  (fun j u hj => by rw [hWc,addr_at,hcA,cell_of_row hv];simpa using hj)
  (fun j hj => by
   have hj:j < 5:=hj;rw [hWc,cell_of_row hN,Array.getElem?_eq_getElem (by omega)];rfl)
  (fun j _ => by rw [hWf];exact frozen_of_row hN) (enQ_one x)
theorem insE_cpB (base:Nat) (l:List Ent) (x:Ent) (g cap vb i:Nat) (hil:i < l.length) (_hl:l.length ≤ 1000000) (hroom:cap < l.length + 1) (w:World) (hO:EnO w base (.slice (some ⟨g,0,none⟩) l.length cap) l)
 (_hv:w.heap[vb]? = some (.cells (enQ x).toArray 36 (0,0))) (_hbw:base ≤ w.heap.size) (G:Nat) (ROW:Array Value) (hGn:l.length + 1 ≤ G) (hRs:ROW.size = G * 5) (W:World) (hWc:∀ y:Addr,W.cell? y = ((w.drew.alloc (.cells ROW 36)).setCells w.heap.size (i * 5) (enQ x)).cell? y) (hWf:∀ y:Addr,W.frozen? y = ((w.drew.alloc (.cells ROW 36)).setCells w.heap.size (i * 5) (enQ x)).frozen? y) (ty:TypeId) (dc sc:Nat) :
 (Builtin.copy_ #[22,22] ty #[.slice (some ⟨w.heap.size,(i + 1) * 5,none⟩) (l.length - i) dc,.slice (some ⟨g,i * 5,none⟩) (l.length - i) sc]).run Tryz.prog W = .ok (goInt (l.length - i:Nat)) (W.setCells w.heap.size ((i + 1) * 5) (enW (l.drop i))):=by
 obtain ⟨i0,hi,hz0,hz1,hz2⟩:=info_parts Tryz.infoEnt;obtain ⟨hbg,cur,hg,hnc,hcm,hcs,hcur⟩:=own_rowS hO;have hsz:(Tryz.prog.info? 36).map (·.size) = some 5:=by rw [hi];simp [hz1]
 have hgw:g < w.heap.size:=(Array.getElem?_eq_some_iff.1 hg).1;have hdl:(enW (l.drop i)).length = (l.length - i) * 5:=by rw [enW_len,List.length_drop]
 generalize hW1:(w.drew.alloc (.cells ROW 36)) = W1 at hWc hWf;have hN:W1.heap[w.heap.size]? = some (.cells ROW 36 (0,0)):=by rw [← hW1];exact heap_alloc_new w.drew _
 have hcA:∀ j,W1.cell? ⟨g,j,none⟩ = w.cell? ⟨g,j,none⟩:=fun j => by
  rw [← hW1];exact World.cell?_alloc_past (w:=w.drew) _ g j hgw
 obtain ⟨cur1,hg1,hs1,hc1⟩:=setCells_hp w.heap.size _ _ (enQ x) (i * 5) W1 ROW hN;have hgne:g ≠ w.heap.size:=by omega
 have hmin:l.length - i = Nat.min (l.length - i) (l.length - i):=by simp
 exact run_copy_cellsK W _ _ ty 36 5 w.heap.size ((i + 1) * 5) _ dc ⟨g,i * 5,none⟩ _ sc (l.length - i) (enW (l.drop i)) Tryz.underlying22 hsz hmin hdl
  (fun j u hj => by
   have hjl:j < (l.length - i) * 5:=by rw [← hdl];exact (List.getElem?_eq_some_iff.1 hj).1
   rw [hWc,addr_at,World.cell?_setCells_out _ _ _ _ _ (fun h _ => absurd h hgne),hcA _,cell_of_row hg,hcur _ (by omega),← hj,enW_drop l i (by omega),List.getElem?_drop])
  (fun j hj => by rw [hWc,cell_of_row hg1,Array.getElem?_eq_getElem (by rw [hs1,hRs];omega)];rfl)
  (fun j _ => by rw [hWf];exact frozen_of_row hg1) (enW_one _)
theorem insE_fin (base:Nat) (l:List Ent) (x:Ent) (g cap vb i:Nat) (hil:i < l.length) (_hl:l.length ≤ 1000000) (_hroom:cap < l.length + 1) (w:World) (_hO:EnO w base (.slice (some ⟨g,0,none⟩) l.length cap) l)
 (_hv:w.heap[vb]? = some (.cells (enQ x).toArray 36 (0,0))) (hbw:base ≤ w.heap.size) (G:Nat) (ROW:Array Value) (hGn:l.length + 1 ≤ G) (hGm:G ≤ maxLen) (hRs:ROW.size = G * 5) (hRx:∀ j,j < i * 5 → ROW[j]? = (enW l)[j]?)
 (V W3:World) (hVh:∀ k:Nat,V.heap[k]? = ((w.drew.alloc (.cells ROW 36)).setCells w.heap.size (i * 5) (enQ x)).heap[k]?) (hVo:V.os = ((w.drew.alloc (.cells ROW 36)).setCells w.heap.size (i * 5) (enQ x)).os) (hVt:V.tape = ((w.drew.alloc (.cells ROW 36)).setCells w.heap.size (i * 5) (enQ x)).tape) (hVu:V.output = ((w.drew.alloc (.cells ROW 36)).setCells w.heap.size (i * 5) (enQ x)).output) (hVs:V.heap.size = ((w.drew.alloc (.cells ROW 36)).setCells w.heap.size (i * 5) (enQ x)).heap.size) (hW3:W3 = V.setCells w.heap.size ((i + 1) * 5) (enW (l.drop i))) :
  EnO W3 base (.slice (some ⟨w.heap.size,0,none⟩) (l.length + 1) G) (insA l i x)∧w.grownBy W3 (some g):=by
 have hdl:(enW (l.drop i)).length = (l.length - i) * 5:=by rw [enW_len,List.length_drop]
 have htl:(enW (l.take i)).length = i * 5:=by rw [enW_len,List.length_take];omega
 have hN:(w.drew.alloc (.cells ROW 36)).heap[w.heap.size]? = some (.cells ROW 36 (0,0)):=heap_alloc_new w.drew _;have hbN:Bl w (w.drew.alloc (.cells ROW 36)):=((Bl.refl _).drew).alloc _;generalize (w.drew.alloc (.cells ROW 36)) = W1 at *;obtain ⟨cur1,hg1,hs1,hc1⟩:=setCells_hp w.heap.size _ _ (enQ x) (i * 5) W1 ROW hN;generalize hW2:W1.setCells w.heap.size (i * 5) (enQ x) = W2 at *;obtain ⟨cur2,hg2,hs2,hc2⟩:=setCells_hp w.heap.size _ _ (enW (l.drop i)) ((i + 1) * 5) V cur1 ((hVh _).trans hg1);rw [← hW3] at hg2;have hgr12:=setCells_gr w.heap.size (enQ x) (i * 5) W1;rw [hW2] at hgr12;have hgr3:=setCells_gr w.heap.size (enW (l.drop i)) ((i + 1) * 5) V;rw [← hW3] at hgr3;have hsz3:w.heap.size < W1.heap.size:=(Array.getElem?_eq_some_iff.1 hN).1;refine ⟨?_,⟨?_,?_,?_,?_,fun k hk hne => ?_⟩⟩
 · unfold EnO;rw [len_insA];refine own_mk hbw hg2 hGn hGm (by rw [hs2,hs1,hRs]) (by rw [enW_len,len_insA]) ?_;intro j hj;have hl2:(enQ x).length = 5:=rfl;have hWx:enW (insA l i x) = enW (l.take i) ++ (enQ x ++ enW (l.drop i)):=by
    unfold insA;rw [enW_app];congr 1
   rw [hWx,hc2 j,hc1 j,hl2,hdl];by_cases c1:j < i * 5
   · rw [if_neg (by omega),if_neg (by omega),List.getElem?_append_left (by omega),hRx j c1,enW_take l i (by omega),List.getElem?_take,if_pos c1]
   · rw [List.getElem?_append_right (by omega),htl];by_cases c2:j < i * 5 + 5
     · rw [if_neg (by omega),if_pos ⟨by omega,by omega,by omega⟩,List.getElem?_append_left (by omega)]
     · rw [if_pos ⟨by omega,by omega,by omega⟩,List.getElem?_append_right (by omega),hl2];congr 1;all_goals omega
 · exact hgr3.os.trans (hVo.trans (hgr12.os.trans hbN.os))
 · exact hgr3.tape.trans (hVt.trans (hgr12.tape.trans hbN.tape))
 · exact hgr3.output.trans (hVu.trans (hgr12.output.trans hbN.output))
 · exact Nat.le_trans hbN.size (Nat.le_trans hgr12.size (by rw [← hVs];exact hgr3.size))
 · have hkN:some k ≠ some w.heap.size:=fun h => by cases h;exact Nat.lt_irrefl _ hk
   have hk1:k < W1.heap.size:=by omega
   have hk2:k < W2.heap.size:=Nat.lt_of_lt_of_le hk1 hgr12.size;exact (hgr3.block k (by rw [hVs];exact hk2) hkN).trans ((hVh k).trans ((hgr12.block k hk1 hkN).trans (Below.block hbN k hk)))
theorem insE_grow (base:Nat) (l:List Ent) (x:Ent) (g cap vb i:Nat) (hil:i < l.length) (hl:l.length ≤ 1000000) (hroom:cap < l.length + 1) (w:World) (hO:EnO w base (.slice (some ⟨g,0,none⟩) l.length cap) l)
 (hv:w.heap[vb]? = some (.cells (enQ x).toArray 36 (0,0))) (hbw:base ≤ w.heap.size) :
 Calls Tryz.prog 57 #[.slice (some ⟨g,0,none⟩) l.length cap,.int .i64 i,.slice (some ⟨vb,0,none⟩) 1 1] w fun e w' => ∃ v', e = .returned v' ∧ EnO w' base v' (insA l i x)∧w.grownBy w' (some g):=by
 obtain ⟨G,ROW,hrz,hGn,hGm,hRs,hRx⟩:=insE_row base l x g cap vb i hil hl hroom w hO hv hbw;have hcpA:=insE_cpA base l x g cap vb i hil hl hroom w hO hv hbw G ROW hGn hRs;have hcpB:=insE_cpB base l x g cap vb i hil hl hroom w hO hv hbw G ROW hGn hRs;obtain ⟨_,cur,hg,hnc,hcm,_,_⟩:=own_rowS hO;have HEND:=Lib.hid (insE_fin base l x g cap vb i hil hl hroom w hO hv hbw G ROW hGn hGm hRs hRx);have hz3:¬ ((i:Int) = (l.length:Int)):=by omega
 have hw1:IntKind.i64.wrap ((i:Int) + 1) = (i:Int) + 1:=by rw [IntKind.wrap_i64];omega
 have hb1:(0:Int) ≤ (i:Int) + 1:=by omega
 have hin:i ≤ l.length:=by omega
 have hic:i ≤ cap:=by omega
 have hb2:¬ (G = i + 1):=by omega
 have hb3:(i:Int) ≤ (l.length:Int) + 1:=by omega
 have hb4:¬ (G = i):=by omega
 have hb5:(cap:Int) < (l.length:Int) + 1:=by omega
 have hb6:¬ (cap = i):=by omega
 have hb7:(i:Int) + 1 ≤ (l.length:Int) + 1:=by omega
 have hb9:i ≤ l.length + 1:=by omega
 have htn:((i:Int) + 1).toNat = i + 1:=by omega
 clear hRs hRx hO hv hg;have hE1:∀ y:Addr,((w.alloc (.cells ROW 36)).drew).cell? y = (w.drew.alloc (.cells ROW 36)).cell? y:=fun _ => rfl
 have hE2:∀ y:Addr,((w.alloc (.cells ROW 36)).drew).frozen? y = (w.drew.alloc (.cells ROW 36)).frozen? y:=fun _ => rfl
 have hF1:∀ y:Addr,(((w.alloc (.cells ROW 36)).drew.setCells w.heap.size (i * 5) (enQ x)).drew).cell? y = ((w.drew.alloc (.cells ROW 36)).setCells w.heap.size (i * 5) (enQ x)).cell? y:=fun y => (drew_cell _ y).trans (congrArg (fun V:World => (V.setCells w.heap.size (i * 5) (enQ x)).cell? y) (show (w.alloc (.cells ROW 36)).drew = w.drew.alloc (.cells ROW 36) from rfl))
 have hF2:∀ y:Addr,(((w.alloc (.cells ROW 36)).drew.setCells w.heap.size (i * 5) (enQ x)).drew).frozen? y = ((w.drew.alloc (.cells ROW 36)).setCells w.heap.size (i * 5) (enQ x)).frozen? y:=fun y => (drew_frozen _ y).trans (congrArg (fun V:World => (V.setCells w.heap.size (i * 5) (enQ x)).frozen? y) (show (w.alloc (.cells ROW 36)).drew = w.drew.alloc (.cells ROW 36) from rfl))
 go_enter Tryz.func57,Tryz.ntmps57;go_wp2_with (first
  | (at_builtin;refine Lib.wpList_append_run _ rfl _ _ _ _ rfl _ _ rfl rfl _ _ (hrz _) ?_)
  | (at_builtin;refine wpList_copy_runI _ rfl _ _ 22 22 rfl _ _ rfl rfl (hcpA _ hE1 hE2 _ _) ?_))
 go_region_law (refine step_copy_runI rfl _ _ 22 22 rfl (.slice (some ⟨w.heap.size,(i + 1) * 5,none⟩) (l.length - i) (G - (i + 1))) (.slice (some ⟨g,i * 5,none⟩) (l.length - i) (cap - i)) (by simp [Act.eval,Act.put]) (by simp [Act.eval,Act.put]) (hcpB _ hF1 hF2 3 (G - (i + 1)) (cap - i)) ?_)
 go_wp2;go_ret;refine ⟨.slice (some ⟨w.heap.size,0,none⟩) (l.length + 1) G,congrArg Ending.returned rfl,?_⟩;exact HEND.out _ _ (fun k => drew_heap _ k) (drew_os _) (drew_tape _) (drew_output _) (drew_size _) rfl
theorem strV_lenK (l:List Nm):(strV l).length = l.length * 1:=by rw [strV_len,Nat.mul_one]
theorem strV_app (l m:List Nm):strV (l ++ m) = strV l ++ strV m:=by simp [strV]
theorem strV_take (l:List Nm) (i:Nat) (_h:i ≤ l.length):strV (l.take i) = (strV l).take (i * 1):=by simp [strV,List.map_take]
theorem strV_drop (l:List Nm) (i:Nat) (_h:i ≤ l.length):strV (l.drop i) = (strV l).drop (i * 1):=by simp [strV,List.map_drop]
theorem strQ_one (x:Nm):∀ u ∈ ([.string ⟨x.toArray⟩]:List Value),u.oneCell' = true:=by
 intro u hu;simp only [List.mem_singleton] at hu;subst hu;rfl
theorem insS_end (base:Nat) (l:List Nm) (v:Value) (x:Nm) (vb:Nat) (hl:l.length ≤ 1000000) (w:World) (hO:StO w base v l) (hv:∀ j u,(([Value.string ⟨x.toArray⟩]:List Value))[j]? = some u → w.cell? ((⟨vb,0,none⟩:Addr).add j) = some u) (hbw:base ≤ w.heap.size) :
 Calls Tryz.prog 27 #[v,.int .i64 l.length,.slice (some ⟨vb,0,none⟩) 1 1] w fun e w' => ∃ v', e = .returned v' ∧ StO w' base v' (l ++ [x])∧w.grownBy w' v.ownBlock:=by
 obtain ⟨i0,hi,hz0,hz1,hz2⟩:=info_parts Tryz.infoStr;have HO:=Lib.hid hO;have HV:=Lib.hid hv;have hWx:=Lib.hid (show strV (l ++ [x]) = strV l ++ ([Value.string ⟨x.toArray⟩]:List Value) by rw [strV_app];simp [strV]);obtain ⟨ao,cap,rfl,hnc⟩:=own_shp hO;clear hO hv;go_enter Tryz.func27,Tryz.ntmps27;go_wp2_with (at_builtin;refine wpList_append_own _ rfl _ _ 23 rfl base 9 i0 (.string ⟨#[]⟩) 1 16 Tryz.underlying23 hi hz0 hz1 hz2 rfl (by decide) (.slice ao l.length cap) l.length (strV l) rfl HO.out ⟨vb,0,none⟩ 1 1 (([Value.string ⟨x.toArray⟩]:List Value)) rfl rfl HV.out (strQ_one x) (by unfold maxLen;omega) (by omega) hbw ?_);all_goals
  intro v' w1 hown hgrow _;have HO2:=Lib.hid hown;have HG:=Lib.hid hgrow;clear hown hgrow;go_wp2;go_ret;refine ⟨_,rfl,?_,by cases ao <;> exact HG.out⟩;unfold StO;rw [hWx.out,List.length_append,List.length_singleton];exact HO2.out
theorem insS_cells (l:List Nm) (i:Nat) (hi:i ≤ l.length) (x:Nm) (cur cur2:Array Value) (h0:∀ j,j < i * 1 → cur[j]? = (strV l)[j]?)
 (hs:(l.length + 1) * 1 ≤ cur.size) (cur1:Array Value) (hs1:cur1.size = cur.size)
 (h1:∀ j,cur1[j]? = if (i + 1) ≤ j∧j < (i + 1) + (strV (l.drop i)).length∧j < cur.size then (strV (l.drop i))[j - (i + 1)]? else cur[j]?)
 (h2:∀ j,cur2[j]? = if i ≤ j∧j < i + (([Value.string ⟨x.toArray⟩]:List Value)).length∧j < cur1.size then (([Value.string ⟨x.toArray⟩]:List Value))[j - i]? else cur1[j]?) :
 ∀ j,j < (l.length + 1) * 1 → cur2[j]? = (strV (insA l i x))[j]?:=by
 intro j hj;have hl1:(strV (l.take i)).length = i * 1:=by rw [strV_lenK,List.length_take];omega
 have hl2:(([Value.string ⟨x.toArray⟩]:List Value)).length = 1:=rfl;have hl3:(strV (l.drop i)).length = (l.length - i) * 1:=by rw [strV_lenK,List.length_drop]
 have hW:strV (insA l i x) = strV (l.take i) ++ (([Value.string ⟨x.toArray⟩]:List Value) ++ strV (l.drop i)):=by
  unfold insA;rw [strV_app];congr 1
 rw [hW,h2 j,h1 j,hl2,hl3];by_cases c1:j < i * 1
 · rw [if_neg (by omega),if_neg (by omega),List.getElem?_append_left (by omega),h0 j c1,strV_take l i hi,List.getElem?_take,if_pos c1]
 · rw [List.getElem?_append_right (by omega),hl1];by_cases c2:j < i * 1 + 1
   · rw [if_pos ⟨by omega,by omega,by omega⟩,List.getElem?_append_left (by omega)];rw [Nat.mul_one]
   · rw [if_neg (by omega),if_pos ⟨by omega,by omega,by omega⟩,List.getElem?_append_right (by omega),hl2];congr 1;all_goals omega
theorem insS_shift (base:Nat) (l:List Nm) (x:Nm) (g cap vb i:Nat) (hil:i < l.length) (hl:l.length ≤ 1000000) (hroom:l.length + 1 ≤ cap) (w:World) (hO:StO w base (.slice (some ⟨g,0,none⟩) l.length cap) l)
 (hv:w.heap[vb]? = some (.cells (([Value.string ⟨x.toArray⟩]:List Value)).toArray 9 (0,0))) (hne:vb ≠ g) :
 Calls Tryz.prog 27 #[.slice (some ⟨g,0,none⟩) l.length cap,.int .i64 i,.slice (some ⟨vb,0,none⟩) 1 1] w fun e w' => ∃ v', e = .returned v' ∧ StO w' base v' (insA l i x)∧w.grownBy w' (some g):=by
 obtain ⟨i0,hi,hz0,hz1,hz2⟩:=info_parts Tryz.infoStr;have hlen:=hO.1;obtain ⟨hbg,cur,hg,hnc,hcm,hcs,hcur⟩:=own_rowS hO;have hsz:(Tryz.prog.info? 9).map (·.size) = some 1:=by rw [hi];simp [hz1]
 have hdl:(strV (l.drop i)).length = (l.length - i) * 1:=by rw [strV_lenK,List.length_drop]
 have hov:∀ lb cb,(callFunc 49 #[.slice (some ⟨vb,0,none⟩) 1 1,.slice (some ⟨g,(i + 1),none⟩) lb cb]).run Tryz.prog w = .ok (.value (.bool false)) w:=fun lb cb => by
  rw [run_callFunc_extern Tryz.func49 (by kernel_rfl) (by kernel_rfl) (by kernel_rfl) (e:=Extern.SlicesOverlaps.overlaps #[23,23] #[4]) (by kernel_rfl),
   Lib.run_overlaps_apart w 23 4 9 Tryz.underlying23 1 (fun w => by kernel_rfl) ⟨vb,0,none⟩ ⟨g,(i + 1),none⟩ 1 1 lb cb hne 9 9 (([Value.string ⟨x.toArray⟩]:List Value)).toArray.size cur.size (by simp [World.shape?,hv]) (by simp [World.shape?,hg]) (by omega) (frozen_of_row hv) (frozen_of_row hv)]
  rfl
 have hmin1:l.length - i = Nat.min (l.length + 1 - i) (l.length - i):=by simp only [Nat.min_def];split <;> omega
 have hcp1:∀ ty dc sc,(Builtin.copy_ #[23,23] ty #[.slice (some ⟨g,(i + 1),none⟩) (l.length - i) dc,.slice (some ⟨g,i,none⟩) (l.length + 1 - i) sc]).run Tryz.prog w.drew = .ok (goInt (l.length - i:Nat)) (w.drew.setCells g ((i + 1)) (strV (l.drop i))):=fun ty dc sc =>
  run_copy_cellsK w.drew _ _ ty 9 1 g ((i + 1)) _ dc ⟨g,i,none⟩ _ sc (l.length - i) (strV (l.drop i)) Tryz.underlying23 hsz hmin1 hdl
   (fun j u hj => by
    rw [addr_at];have hjl:j < (l.length - i) * 1:=by rw [← hdl];exact (List.getElem?_eq_some_iff.1 hj).1
    show w.cell? _ = _;rw [cell_of_row hg,hcur _ (by omega),← hj,strV_drop l i (by omega),List.getElem?_drop,Nat.mul_one])
   (fun j hj => by
    show (w.cell? _).isSome = true;rw [cell_of_row hg,Array.getElem?_eq_getElem (by omega)];rfl)
   (fun j _ => frozen_of_row (w:=w) hg) (strV_one _)
 obtain ⟨cur1,hg1,hs1,hc1⟩:=setCells_hp g _ _ (strV (l.drop i)) ((i + 1)) w.drew cur hg;obtain ⟨W1,hW1⟩:∃ W1,W1 = w.drew.setCells g ((i + 1)) (strV (l.drop i)):=⟨_,rfl⟩;rw [← hW1] at hcp1 hg1;have hvW:∀ j u,(([Value.string ⟨x.toArray⟩]:List Value))[j]? = some u → W1.cell? ((⟨vb,0,none⟩:Addr).add j) = some u:=fun j u hj => by
  rw [addr_at,hW1,World.cell?_setCells_out g _ _ _ _ (fun h _ => absurd h hne)];show w.cell? _ = _;rw [cell_of_row hv];simpa using hj
 have hcp2:∀ (W:World),(∀ x,W.cell? x = W1.cell? x) → (∀ x,W.frozen? x = W1.frozen? x) → ∀ ty dc,(Builtin.copy_ #[23,23] ty #[.slice (some ⟨g,i,none⟩) (l.length + 1 - i) dc,.slice (some ⟨vb,0,none⟩) 1 1]).run Tryz.prog W = .ok (goInt (1:Nat)) (W.setCells g (i) (([Value.string ⟨x.toArray⟩]:List Value))):=fun W hWc hWf ty dc =>
  run_copy_cellsK W _ _ ty 9 1 g (i) _ dc ⟨vb,0,none⟩ 1 1 1 (([Value.string ⟨x.toArray⟩]:List Value)) Tryz.underlying23 hsz (by simp only [Nat.min_def];split <;> omega) rfl
   (fun j u hj => by rw [hWc];exact hvW j u hj)
   (fun j hj => by
    have hj:j < 1:=hj;rw [hWc,cell_of_row hg1,Array.getElem?_eq_getElem (by omega)];rfl)
   (fun j _ => by rw [hWf];exact frozen_of_row hg1) (strQ_one x)
 have hres:∃ v', Value.slice (some ⟨g,0,none⟩) (l.length + 1) cap = v' ∧ StO (W1.setCells g (i) (([Value.string ⟨x.toArray⟩]:List Value))) base v' (insA l i x)∧w.grownBy (W1.setCells g (i) (([Value.string ⟨x.toArray⟩]:List Value))) (some g):=by
  obtain ⟨cur2,hg2,hs2,hc2⟩:=setCells_hp g _ _ (([Value.string ⟨x.toArray⟩]:List Value)) (i) W1 cur1 hg1;refine ⟨_,rfl,?_,World.grownBy.trans (bl_gr ((Bl.refl _).drew) (by rw [hW1];exact setCells_gr _ _ _ _)) (setCells_gr _ _ _ _)⟩;unfold StO;rw [len_insA];exact own_mk hbg hg2 (by omega) hcm (by rw [hs2,hs1,hcs]) (by rw [strV_lenK,len_insA]) (insS_cells l i (by omega) x cur cur2 (fun j hj => hcur j (by omega)) (by omega) cur1 hs1 hc1 hc2)
 have HRES:=Lib.hid hres;have hz3:¬ ((i:Int) = (l.length:Int)):=by omega
 have hw1:IntKind.i64.wrap ((i:Int) + 1) = (i:Int) + 1:=by rw [IntKind.wrap_i64];omega
 have hb1:(0:Int) ≤ (i:Int) + 1:=by omega
 have hin:i ≤ l.length:=by omega
 have htn:((i:Int) + 1).toNat = i + 1:=by omega
 have htn2:((l.length:Int) + 1).toNat = l.length + 1:=by omega
 have hb2:¬ (cap = i + 1):=by omega
 have hb3:(i:Int) ≤ (l.length:Int) + 1:=by omega
 have hb4:¬ (cap = i):=by omega
 have hb5:¬ ((cap:Int) < (l.length:Int) + 1):=by omega
 have hb6:(l.length:Int) + 1 ≤ (cap:Int):=by omega
 have hb7:(i:Int) + 1 ≤ (l.length:Int) + 1:=by omega
 have hb8:(0:Int) ≤ (l.length:Int) + 1:=by omega
 clear hO hg hcur hlen hdl hmin1 hg1 hs1 hc1 hvW hres hv hW1;go_enter Tryz.func27,Tryz.ntmps27;go_wp2_with (simp only [hov])
 go_region_law (refine step_copy_runI rfl _ _ 23 23 rfl _ _ (by simp [Act.eval,Act.put]) (by simp [Act.eval,Act.put]) (hcp1 _ _ _) ?_)
 go_wp2_with (at_builtin;refine wpList_copy_runI _ rfl _ _ 23 23 rfl _ _ rfl rfl (hcp2 _ (fun _ => rfl) (fun _ => rfl) _ _) ?_);go_ret;obtain ⟨v', hv', hr⟩:=HRES.out;exact ⟨v', congrArg Ending.returned hv', hr⟩
theorem insS_zs (n:Nat):(Builtin.zeroCells (Value.cells (.string ⟨#[]⟩)) n).size = n * 1:=by
 unfold Builtin.zeroCells;rw [Array.size_map,Array.size_range];rfl
theorem insS_row (base:Nat) (l:List Nm) (x:Nm) (g cap vb i:Nat) (hil:i < l.length) (hl:l.length ≤ 1000000) (hroom:cap < l.length + 1) (w:World) (hO:StO w base (.slice (some ⟨g,0,none⟩) l.length cap) l)
 (_hv:w.heap[vb]? = some (.cells (([Value.string ⟨x.toArray⟩]:List Value)).toArray 9 (0,0))) (_hbw:base ≤ w.heap.size) :
 ∃ (G : Nat) (ROW : Array Value), (∀ ty, (Builtin.append_ #[23, 3] ty #[.slice (some ⟨g, 0, none⟩) i cap, .int .i64 ((l.length : Int) + 1 - (i : Int))]).run Tryz.prog w =
   .ok (.slice (some ⟨w.heap.size,0,none⟩) (l.length + 1) G) (w.drew.alloc (.cells ROW 9)))∧l.length + 1 ≤ G∧G ≤ maxLen∧ROW.size = G * 1∧∀ j,j < i * 1 → ROW[j]? = (strV l)[j]?:=by
 obtain ⟨i0,hi,hz0,hz1,hz2⟩:=info_parts Tryz.infoStr;obtain ⟨hbg,cur,hg,hnc,hcm,hcs,hcur⟩:=own_rowS hO;have htl:(strV (l.take i)).length = i * 1:=by rw [strV_lenK,List.length_take];omega
 have hkk:(l.length:Int) + 1 - (i:Int) = ((l.length + 1 - i:Nat):Int):=by omega
 have hik:i + (l.length + 1 - i) = l.length + 1:=by omega
 have hold:(Builtin.firstCells i0.size i (.slice (some ⟨g,0,none⟩) i cap)).run Tryz.prog w.drew = .ok (strV (l.take i)).toArray w.drew:=by
  rw [hz1];exact run_firstCells_some w.drew 1 i ⟨g,0,none⟩ i cap _ htl (fun j u hj => by
   rw [addr_at,Nat.zero_add];show w.cell? _ = _;have hjl:j < i * 1:=by rw [← htl];exact (List.getElem?_eq_some_iff.1 hj).1
   rw [cell_of_row hg,hcur _ (by omega),← hj,strV_take l i (by omega),List.getElem?_take,if_pos hjl])
 have hmx:=grownCap_le_maxLen w (l.length + 1) cap 9 (by unfold maxLen;omega);have hge:=grownCap_ge w (l.length + 1) cap 9;have hrz:=fun ty => Lib.run_append_grow_zeros w 23 3 ty 9 i0 _ .i64 .i64 Tryz.underlying23 Tryz.underlying3 hi hz0 (some ⟨g,0,none⟩) i cap (strV (l.take i)) hold (l.length + 1 - i) (by omega) (by omega) (by omega) (by omega) (by rw [hz2];omega) (by rw [hz2,hik];exact growslice_fits hroom (by omega))
 rw [hik] at hrz;rw [hkk];generalize grownCap w (l.length + 1) cap 9 = G at hrz hmx hge;refine ⟨G,_,hrz,hge,hmx,?_,fun j hj => ?_⟩
 · rw [Array.size_append,Array.size_append,insS_zs,insS_zs,List.size_toArray,htl];omega
 · rw [Array.getElem?_append_left (by rw [Array.size_append,insS_zs,List.size_toArray,htl];omega),Array.getElem?_append_left (by rw [List.size_toArray,htl];omega)];rw [List.getElem?_toArray,strV_take l i (by omega),List.getElem?_take,if_pos hj]
theorem insS_cpA (base:Nat) (l:List Nm) (x:Nm) (g cap vb i:Nat) (hil:i < l.length) (_hl:l.length ≤ 1000000) (_hroom:cap < l.length + 1) (w:World) (_hO:StO w base (.slice (some ⟨g,0,none⟩) l.length cap) l)
 (hv:w.heap[vb]? = some (.cells (([Value.string ⟨x.toArray⟩]:List Value)).toArray 9 (0,0))) (_hbw:base ≤ w.heap.size) (G:Nat) (ROW:Array Value) (hGn:l.length + 1 ≤ G) (hRs:ROW.size = G * 1) (W:World) (hWc:∀ y:Addr,W.cell? y = (w.drew.alloc (.cells ROW 9)).cell? y) (hWf:∀ y:Addr,W.frozen? y = (w.drew.alloc (.cells ROW 9)).frozen? y) (ty:TypeId) (dc:Nat) :
 (Builtin.copy_ #[23,23] ty #[.slice (some ⟨w.heap.size,i,none⟩) (l.length + 1 - i) dc,.slice (some ⟨vb,0,none⟩) 1 1]).run Tryz.prog W = .ok (goInt (1:Nat)) (W.setCells w.heap.size (i) (([Value.string ⟨x.toArray⟩]:List Value))):=by
 obtain ⟨i0,hi,hz0,hz1,hz2⟩:=info_parts Tryz.infoStr;have hsz:(Tryz.prog.info? 9).map (·.size) = some 1:=by rw [hi];simp [hz1]
 have hvw:vb < w.heap.size:=(Array.getElem?_eq_some_iff.1 hv).1;generalize hW1:(w.drew.alloc (.cells ROW 9)) = W1 at hWc hWf;have hN:W1.heap[w.heap.size]? = some (.cells ROW 9 (0,0)):=by rw [← hW1];exact heap_alloc_new w.drew _
 have hcA:∀ j,W1.cell? ⟨vb,j,none⟩ = w.cell? ⟨vb,j,none⟩:=fun j => by
  rw [← hW1];exact World.cell?_alloc_past (w:=w.drew) _ vb j hvw
 exact run_copy_cellsK W _ _ ty 9 1 w.heap.size (i) _ dc ⟨vb,0,none⟩ 1 1 1 (([Value.string ⟨x.toArray⟩]:List Value)) Tryz.underlying23 hsz (by simp only [Nat.min_def];split <;> omega) rfl
  (fun j u hj => by rw [hWc,addr_at,hcA,cell_of_row hv];simpa using hj)
  (fun j hj => by
   have hj:j < 1:=hj;rw [hWc,cell_of_row hN,Array.getElem?_eq_getElem (by omega)];rfl)
  (fun j _ => by rw [hWf];exact frozen_of_row hN) (strQ_one x)
theorem insS_cpB (base:Nat) (l:List Nm) (x:Nm) (g cap vb i:Nat) (hil:i < l.length) (_hl:l.length ≤ 1000000) (hroom:cap < l.length + 1) (w:World) (hO:StO w base (.slice (some ⟨g,0,none⟩) l.length cap) l)
 (_hv:w.heap[vb]? = some (.cells (([Value.string ⟨x.toArray⟩]:List Value)).toArray 9 (0,0))) (_hbw:base ≤ w.heap.size) (G:Nat) (ROW:Array Value) (hGn:l.length + 1 ≤ G) (hRs:ROW.size = G * 1) (W:World) (hWc:∀ y:Addr,W.cell? y = ((w.drew.alloc (.cells ROW 9)).setCells w.heap.size (i) (([Value.string ⟨x.toArray⟩]:List Value))).cell? y) (hWf:∀ y:Addr,W.frozen? y = ((w.drew.alloc (.cells ROW 9)).setCells w.heap.size (i) (([Value.string ⟨x.toArray⟩]:List Value))).frozen? y) (ty:TypeId) (dc sc:Nat) :
 (Builtin.copy_ #[23,23] ty #[.slice (some ⟨w.heap.size,(i + 1),none⟩) (l.length - i) dc,.slice (some ⟨g,i,none⟩) (l.length - i) sc]).run Tryz.prog W = .ok (goInt (l.length - i:Nat)) (W.setCells w.heap.size ((i + 1)) (strV (l.drop i))):=by
 obtain ⟨i0,hi,hz0,hz1,hz2⟩:=info_parts Tryz.infoStr;obtain ⟨hbg,cur,hg,hnc,hcm,hcs,hcur⟩:=own_rowS hO;have hsz:(Tryz.prog.info? 9).map (·.size) = some 1:=by rw [hi];simp [hz1]
 have hgw:g < w.heap.size:=(Array.getElem?_eq_some_iff.1 hg).1;have hdl:(strV (l.drop i)).length = (l.length - i) * 1:=by rw [strV_lenK,List.length_drop]
 generalize hW1:(w.drew.alloc (.cells ROW 9)) = W1 at hWc hWf;have hN:W1.heap[w.heap.size]? = some (.cells ROW 9 (0,0)):=by rw [← hW1];exact heap_alloc_new w.drew _
 have hcA:∀ j,W1.cell? ⟨g,j,none⟩ = w.cell? ⟨g,j,none⟩:=fun j => by
  rw [← hW1];exact World.cell?_alloc_past (w:=w.drew) _ g j hgw
 obtain ⟨cur1,hg1,hs1,hc1⟩:=setCells_hp w.heap.size _ _ (([Value.string ⟨x.toArray⟩]:List Value)) (i) W1 ROW hN;have hgne:g ≠ w.heap.size:=by omega
 have hmin:l.length - i = Nat.min (l.length - i) (l.length - i):=by simp
 exact run_copy_cellsK W _ _ ty 9 1 w.heap.size ((i + 1)) _ dc ⟨g,i,none⟩ _ sc (l.length - i) (strV (l.drop i)) Tryz.underlying23 hsz hmin hdl
  (fun j u hj => by
   have hjl:j < (l.length - i) * 1:=by rw [← hdl];exact (List.getElem?_eq_some_iff.1 hj).1
   rw [hWc,addr_at,World.cell?_setCells_out _ _ _ _ _ (fun h _ => absurd h hgne),hcA _,cell_of_row hg,hcur _ (by omega),← hj,strV_drop l i (by omega),List.getElem?_drop,Nat.mul_one])
  (fun j hj => by rw [hWc,cell_of_row hg1,Array.getElem?_eq_getElem (by rw [hs1,hRs];omega)];rfl)
  (fun j _ => by rw [hWf];exact frozen_of_row hg1) (strV_one _)
theorem insS_fin (base:Nat) (l:List Nm) (x:Nm) (g cap vb i:Nat) (hil:i < l.length) (_hl:l.length ≤ 1000000) (_hroom:cap < l.length + 1) (w:World) (_hO:StO w base (.slice (some ⟨g,0,none⟩) l.length cap) l)
 (_hv:w.heap[vb]? = some (.cells (([Value.string ⟨x.toArray⟩]:List Value)).toArray 9 (0,0))) (hbw:base ≤ w.heap.size) (G:Nat) (ROW:Array Value) (hGn:l.length + 1 ≤ G) (hGm:G ≤ maxLen) (hRs:ROW.size = G * 1) (hRx:∀ j,j < i * 1 → ROW[j]? = (strV l)[j]?)
 (V W3:World) (hVh:∀ k:Nat,V.heap[k]? = ((w.drew.alloc (.cells ROW 9)).setCells w.heap.size (i) (([Value.string ⟨x.toArray⟩]:List Value))).heap[k]?) (hVo:V.os = ((w.drew.alloc (.cells ROW 9)).setCells w.heap.size (i) (([Value.string ⟨x.toArray⟩]:List Value))).os) (hVt:V.tape = ((w.drew.alloc (.cells ROW 9)).setCells w.heap.size (i) (([Value.string ⟨x.toArray⟩]:List Value))).tape) (hVu:V.output = ((w.drew.alloc (.cells ROW 9)).setCells w.heap.size (i) (([Value.string ⟨x.toArray⟩]:List Value))).output) (hVs:V.heap.size = ((w.drew.alloc (.cells ROW 9)).setCells w.heap.size (i) (([Value.string ⟨x.toArray⟩]:List Value))).heap.size) (hW3:W3 = V.setCells w.heap.size ((i + 1)) (strV (l.drop i))) :
  StO W3 base (.slice (some ⟨w.heap.size,0,none⟩) (l.length + 1) G) (insA l i x)∧w.grownBy W3 (some g):=by
 have hdl:(strV (l.drop i)).length = (l.length - i) * 1:=by rw [strV_lenK,List.length_drop]
 have htl:(strV (l.take i)).length = i * 1:=by rw [strV_lenK,List.length_take];omega
 have hN:(w.drew.alloc (.cells ROW 9)).heap[w.heap.size]? = some (.cells ROW 9 (0,0)):=heap_alloc_new w.drew _;have hbN:Bl w (w.drew.alloc (.cells ROW 9)):=((Bl.refl _).drew).alloc _;generalize (w.drew.alloc (.cells ROW 9)) = W1 at *;obtain ⟨cur1,hg1,hs1,hc1⟩:=setCells_hp w.heap.size _ _ (([Value.string ⟨x.toArray⟩]:List Value)) (i) W1 ROW hN;generalize hW2:W1.setCells w.heap.size (i) (([Value.string ⟨x.toArray⟩]:List Value)) = W2 at *;obtain ⟨cur2,hg2,hs2,hc2⟩:=setCells_hp w.heap.size _ _ (strV (l.drop i)) ((i + 1)) V cur1 ((hVh _).trans hg1);rw [← hW3] at hg2;have hgr12:=setCells_gr w.heap.size (([Value.string ⟨x.toArray⟩]:List Value)) (i) W1;rw [hW2] at hgr12;have hgr3:=setCells_gr w.heap.size (strV (l.drop i)) ((i + 1)) V;rw [← hW3] at hgr3;have hsz3:w.heap.size < W1.heap.size:=(Array.getElem?_eq_some_iff.1 hN).1;refine ⟨?_,⟨?_,?_,?_,?_,fun k hk hne => ?_⟩⟩
 · unfold StO;rw [len_insA];refine own_mk hbw hg2 hGn hGm (by rw [hs2,hs1,hRs]) (by rw [strV_lenK,len_insA]) ?_;intro j hj;have hl2:(([Value.string ⟨x.toArray⟩]:List Value)).length = 1:=rfl;have hWx:strV (insA l i x) = strV (l.take i) ++ (([Value.string ⟨x.toArray⟩]:List Value) ++ strV (l.drop i)):=by
    unfold insA;rw [strV_app];congr 1
   rw [hWx,hc2 j,hc1 j,hl2,hdl];by_cases c1:j < i * 1
   · rw [if_neg (by omega),if_neg (by omega),List.getElem?_append_left (by omega),hRx j c1,strV_take l i (by omega),List.getElem?_take,if_pos c1]
   · rw [List.getElem?_append_right (by omega),htl];by_cases c2:j < i * 1 + 1
     · rw [if_neg (by omega),if_pos ⟨by omega,by omega,by omega⟩,List.getElem?_append_left (by omega)];rw [Nat.mul_one]
     · rw [if_pos ⟨by omega,by omega,by omega⟩,List.getElem?_append_right (by omega),hl2];congr 1;all_goals omega
 · exact hgr3.os.trans (hVo.trans (hgr12.os.trans hbN.os))
 · exact hgr3.tape.trans (hVt.trans (hgr12.tape.trans hbN.tape))
 · exact hgr3.output.trans (hVu.trans (hgr12.output.trans hbN.output))
 · exact Nat.le_trans hbN.size (Nat.le_trans hgr12.size (by rw [← hVs];exact hgr3.size))
 · have hkN:some k ≠ some w.heap.size:=fun h => by cases h;exact Nat.lt_irrefl _ hk
   have hk1:k < W1.heap.size:=by omega
   have hk2:k < W2.heap.size:=Nat.lt_of_lt_of_le hk1 hgr12.size;exact (hgr3.block k (by rw [hVs];exact hk2) hkN).trans ((hVh k).trans ((hgr12.block k hk1 hkN).trans (Below.block hbN k hk)))
theorem insS_grow (base:Nat) (l:List Nm) (x:Nm) (g cap vb i:Nat) (hil:i < l.length) (hl:l.length ≤ 1000000) (hroom:cap < l.length + 1) (w:World) (hO:StO w base (.slice (some ⟨g,0,none⟩) l.length cap) l)
 (hv:w.heap[vb]? = some (.cells (([Value.string ⟨x.toArray⟩]:List Value)).toArray 9 (0,0))) (hbw:base ≤ w.heap.size) :
 Calls Tryz.prog 27 #[.slice (some ⟨g,0,none⟩) l.length cap,.int .i64 i,.slice (some ⟨vb,0,none⟩) 1 1] w fun e w' => ∃ v', e = .returned v' ∧ StO w' base v' (insA l i x)∧w.grownBy w' (some g):=by
 obtain ⟨G,ROW,hrz,hGn,hGm,hRs,hRx⟩:=insS_row base l x g cap vb i hil hl hroom w hO hv hbw;have hcpA:=insS_cpA base l x g cap vb i hil hl hroom w hO hv hbw G ROW hGn hRs;have hcpB:=insS_cpB base l x g cap vb i hil hl hroom w hO hv hbw G ROW hGn hRs;obtain ⟨_,cur,hg,hnc,hcm,_,_⟩:=own_rowS hO;have HEND:=Lib.hid (insS_fin base l x g cap vb i hil hl hroom w hO hv hbw G ROW hGn hGm hRs hRx);have hz3:¬ ((i:Int) = (l.length:Int)):=by omega
 have hw1:IntKind.i64.wrap ((i:Int) + 1) = (i:Int) + 1:=by rw [IntKind.wrap_i64];omega
 have hb1:(0:Int) ≤ (i:Int) + 1:=by omega
 have hin:i ≤ l.length:=by omega
 have hic:i ≤ cap:=by omega
 have hb2:¬ (G = i + 1):=by omega
 have hb3:(i:Int) ≤ (l.length:Int) + 1:=by omega
 have hb4:¬ (G = i):=by omega
 have hb5:(cap:Int) < (l.length:Int) + 1:=by omega
 have hb6:¬ (cap = i):=by omega
 have hb7:(i:Int) + 1 ≤ (l.length:Int) + 1:=by omega
 have hb9:i ≤ l.length + 1:=by omega
 have htn:((i:Int) + 1).toNat = i + 1:=by omega
 clear hRs hRx hO hv hg;have hE1:∀ y:Addr,((w.alloc (.cells ROW 9)).drew).cell? y = (w.drew.alloc (.cells ROW 9)).cell? y:=fun _ => rfl
 have hE2:∀ y:Addr,((w.alloc (.cells ROW 9)).drew).frozen? y = (w.drew.alloc (.cells ROW 9)).frozen? y:=fun _ => rfl
 have hF1:∀ y:Addr,(((w.alloc (.cells ROW 9)).drew.setCells w.heap.size (i) (([Value.string ⟨x.toArray⟩]:List Value))).drew).cell? y = ((w.drew.alloc (.cells ROW 9)).setCells w.heap.size (i) (([Value.string ⟨x.toArray⟩]:List Value))).cell? y:=fun y => (drew_cell _ y).trans (congrArg (fun V:World => (V.setCells w.heap.size (i) (([Value.string ⟨x.toArray⟩]:List Value))).cell? y) (show (w.alloc (.cells ROW 9)).drew = w.drew.alloc (.cells ROW 9) from rfl))
 have hF2:∀ y:Addr,(((w.alloc (.cells ROW 9)).drew.setCells w.heap.size (i) (([Value.string ⟨x.toArray⟩]:List Value))).drew).frozen? y = ((w.drew.alloc (.cells ROW 9)).setCells w.heap.size (i) (([Value.string ⟨x.toArray⟩]:List Value))).frozen? y:=fun y => (drew_frozen _ y).trans (congrArg (fun V:World => (V.setCells w.heap.size (i) (([Value.string ⟨x.toArray⟩]:List Value))).frozen? y) (show (w.alloc (.cells ROW 9)).drew = w.drew.alloc (.cells ROW 9) from rfl))
 go_enter Tryz.func27,Tryz.ntmps27;go_wp2_with (first
  | (at_builtin;refine Lib.wpList_append_run _ rfl _ _ _ _ rfl _ _ rfl rfl _ _ (hrz _) ?_)
  | (at_builtin;refine wpList_copy_runI _ rfl _ _ 23 23 rfl _ _ rfl rfl (hcpA _ hE1 hE2 _ _) ?_))
 go_region_law (refine step_copy_runI rfl _ _ 23 23 rfl (.slice (some ⟨w.heap.size,(i + 1),none⟩) (l.length - i) (G - (i + 1))) (.slice (some ⟨g,i,none⟩) (l.length - i) (cap - i)) (by simp [Act.eval,Act.put]) (by simp [Act.eval,Act.put]) (hcpB _ hF1 hF2 3 (G - (i + 1)) (cap - i)) ?_)
 go_wp2;go_ret;refine ⟨.slice (some ⟨w.heap.size,0,none⟩) (l.length + 1) G,congrArg Ending.returned rfl,?_⟩;exact HEND.out _ _ (fun k => drew_heap _ k) (drew_os _) (drew_tape _) (drew_output _) (drew_size _) rfl
theorem insE_c (base:Nat) (l:List Ent) (x:Ent) (v:Value) (vb i:Nat) (hil:i ≤ l.length) (hl:l.length ≤ 1000000) (w:World) (hO:EnO w base v l)
 (hv:w.heap[vb]? = some (.cells (enQ x).toArray 36 (0,0))) (hne:v.ownBlock ≠ some vb) (hbw:base ≤ w.heap.size) :
 Calls Tryz.prog 57 #[v,.int .i64 i,.slice (some ⟨vb,0,none⟩) 1 1] w fun e w' => ∃ v', e = .returned v' ∧ EnO w' base v' (insA l i x)∧w.grownBy w' v.ownBlock:=by
 by_cases he:i = l.length
 · subst he;have h:=insE_end base l v x vb hl w hO (fun j u hj => by rw [addr_at,cell_of_row hv];simpa using hj) hbw;rw [show insA l l.length x = l ++ [x] by simp [insA]];exact h
 · obtain ⟨g,cap,cur,rfl,hbg,hg,hnc,hcm,hcs,hcur⟩:=own_rowE hO (by omega);have hne':vb ≠ g:=fun e => hne (by rw [e];rfl)
   by_cases hr:l.length + 1 ≤ cap
   · exact insE_shift base l x g cap vb i (by omega) hl hr w hO hv hne'
   · exact insE_grow base l x g cap vb i (by omega) hl (by omega) w hO hv hbw
theorem insS_c (base:Nat) (l:List Nm) (x:Nm) (v:Value) (vb i:Nat) (hil:i ≤ l.length) (hl:l.length ≤ 1000000) (w:World) (hO:StO w base v l)
 (hv:w.heap[vb]? = some (.cells #[.string ⟨x.toArray⟩] 9 (0,0))) (hne:v.ownBlock ≠ some vb) (hbw:base ≤ w.heap.size) :
 Calls Tryz.prog 27 #[v,.int .i64 i,.slice (some ⟨vb,0,none⟩) 1 1] w fun e w' => ∃ v', e = .returned v' ∧ StO w' base v' (insA l i x)∧w.grownBy w' v.ownBlock:=by
 by_cases he:i = l.length
 · subst he;have h:=insS_end base l v x vb hl w hO (fun j u hj => by rw [addr_at,cell_of_row hv];simpa using hj) hbw;rw [show insA l l.length x = l ++ [x] by simp [insA]];exact h
 · obtain ⟨g,cap,cur,rfl,hbg,hg,hnc,hcm,hcs,hcur⟩:=own_rowE hO (by omega);have hne':vb ≠ g:=fun e => hne (by rw [e];rfl)
   by_cases hr:l.length + 1 ≤ cap
   · exact insS_shift base l x g cap vb i (by omega) hl hr w hO hv hne'
   · exact insS_grow base l x g cap vb i (by omega) hl (by omega) w hO hv hbw
theorem own_bas {w:World} {base:Nat} {e:TypeId} {size n:Nat} {v:Value} {xs:List Value} (h:w.ownsRow base e size v n xs) {k:Nat} (hk:v.ownBlock = some k):base ≤ k∧k < w.heap.size:=by
 rcases h.2 with ⟨rfl,_⟩ | ⟨g,cap,cur,rfl,hb,hg,_⟩
 · simp [Value.ownBlock] at hk
 · simp only [Value.ownBlock,Option.some.injEq] at hk;subst hk;exact ⟨hb,(Array.getElem?_eq_some_iff.1 hg).1⟩
theorem gr_below {w w':World} {base:Nat} {row:Option Nat} (h:w.grownBy w' row) (hbw:base ≤ w.heap.size) (hr:∀ k,row = some k → base ≤ k):Below base w w' :=
 ⟨h.os,h.tape,h.output,h.size,fun k hk => h.block k (by omega) (fun e => by have:=hr k e.symm;omega)⟩
theorem kp_gr {w w':World} {base b:Nat} {rd:List Nm} {es:List Ent} {ve vr:Value} (hb:w.heap[b]? = some (.cells #[ve,vr] 57)) (hE:EnO w base ve es) (hR:StO w base vr rd) (hg:w.grownBy w' ve.ownBlock) (hbw:base ≤ w.heap.size) :
 w'.heap[b]? = some (.cells #[ve,vr] 57)∧StO w' base vr rd∧Below base w w':=by
 refine ⟨?_,own_same hR (fun k hk => ?_),gr_below hg hbw (fun k hk => (own_bas hE hk).1)⟩
 · rw [hg.block b (keep_cells hb).1 (fun e => own_ty hE hb (by decide) e.symm)];exact hb
 · refine hg.block k (own_bas hR hk).2 (fun e => ?_);obtain ⟨c,hc⟩:=own_row hR hk;exact own_ty hE hc (by decide) e.symm
theorem kp_gr2 {w w':World} {base b:Nat} {rd:List Nm} {es:List Ent} {ve vr:Value} (hb:w.heap[b]? = some (.cells #[ve,vr] 57)) (hE:EnO w base ve es) (hR:StO w base vr rd) (hg:w.grownBy w' vr.ownBlock) (hbw:base ≤ w.heap.size) :
 w'.heap[b]? = some (.cells #[ve,vr] 57)∧EnO w' base ve es∧Below base w w':=by
 refine ⟨?_,own_same hE (fun k hk => ?_),gr_below hg hbw (fun k hk => (own_bas hR hk).1)⟩
 · rw [hg.block b (keep_cells hb).1 (fun e => own_ty hR hb (by decide) e.symm)];exact hb
 · refine hg.block k (own_bas hE hk).2 (fun e => ?_);obtain ⟨c,hc⟩:=own_row hE hk;exact own_ty hR hc (by decide) e.symm
theorem set_hp {w:World} {b o:Nat} {v:Value} {cur:Array Value} {e:TypeId} {fr:Nat × Nat} (hb:w.heap[b]? = some (.cells cur e fr)):∃ cur', (w.setCell ⟨b,o,none⟩ v).heap[b]? = some (.cells cur' e fr)∧cur'.size = cur.size∧∀ j,cur'[j]? = if o = j∧j < cur.size then some v else cur[j]?:=by
 obtain ⟨cur', h1,h2,h3⟩:=setCells_hp b e fr [v] o w cur hb;refine ⟨cur', h1,h2,fun j => ?_⟩;rw [h3 j,List.length_singleton];by_cases c:o = j∧j < cur.size
 · rw [if_pos ⟨by omega,by omega,by omega⟩,if_pos c,c.1,Nat.sub_self];rfl
 · rw [if_neg c,if_neg (by omega)]
theorem twoOf {cur:Array Value} {a b:Value} (hs:cur.size = 2) (h0:cur[0]? = some a) (h1:cur[1]? = some b):cur = #[a,b]:=by
 apply Array.ext_getElem?;intro i;match i with
 | 0 => simpa using h0
 | 1 => simpa using h1
 | i + 2 => rw [Array.getElem?_eq_none (by omega),Array.getElem?_eq_none (by simp)]
theorem kp_set0 {w:World} {base b:Nat} {rd:List Nm} {L:List Ent} {ve v' vr:Value} (hb:w.heap[b]? = some (.cells #[ve,vr] 57)) (hE:EnO w base v' L) (hR:StO w base vr rd) (hbb:base ≤ b) (hbw:base ≤ w.heap.size) :
 (w.setCell ⟨b,0,none⟩ v').heap[b]? = some (.cells #[v', vr] 57)∧EnO (w.setCell ⟨b,0,none⟩ v') base v' L∧StO (w.setCell ⟨b,0,none⟩ v') base vr rd∧Below base w (w.setCell ⟨b,0,none⟩ v'):=by
 obtain ⟨cur', h1,h2,h3⟩:=set_hp (o:=0) (v:=v') hb;have hg:w.grownBy (w.setCell ⟨b,0,none⟩ v') (some b):=setCells_gr b [v'] 0 w;have hc:cur' = #[v', vr]:=twoOf h2 (by rw [h3];rfl) (by rw [h3];rfl);refine ⟨by rw [h1,hc],own_same hE (fun k hk => ?_),own_same hR (fun k hk => ?_),gr_below hg hbw (fun k hk => by cases hk;exact hbb)⟩
 · exact hg.block k (own_bas hE hk).2 (fun e => by cases e;exact own_ty hE hb (by decide) hk)
 · exact hg.block k (own_bas hR hk).2 (fun e => by cases e;exact own_ty hR hb (by decide) hk)
theorem kp_set1 {w:World} {base b:Nat} {rd:List Nm} {L:List Ent} {ve v' vr:Value} (hb:w.heap[b]? = some (.cells #[ve,vr] 57)) (hE:EnO w base ve L) (hR:StO w base v' rd) (hbb:base ≤ b) (hbw:base ≤ w.heap.size) :
 (w.setCell ⟨b,1,none⟩ v').heap[b]? = some (.cells #[ve,v'] 57)∧EnO (w.setCell ⟨b,1,none⟩ v') base ve L∧StO (w.setCell ⟨b,1,none⟩ v') base v' rd∧Below base w (w.setCell ⟨b,1,none⟩ v'):=by
 obtain ⟨cur', h1,h2,h3⟩:=set_hp (o:=1) (v:=v') hb;have hg:w.grownBy (w.setCell ⟨b,1,none⟩ v') (some b):=setCells_gr b [v'] 1 w;have hc:cur' = #[ve,v']:=twoOf h2 (by rw [h3];rfl) (by rw [h3];rfl);refine ⟨by rw [h1,hc],own_same hE (fun k hk => ?_),own_same hR (fun k hk => ?_),gr_below hg hbw (fun k hk => by cases hk;exact hbb)⟩
 · exact hg.block k (own_bas hE hk).2 (fun e => by cases e;exact own_ty hE hb (by decide) hk)
 · exact hg.block k (own_bas hR hk).2 (fun e => by cases e;exact own_ty hR hb (by decide) hk)
end Go.Proofs.YthnpljkekhieiaaGreatDoor

/- Shelves: slices.DeleteFunc of entries. · Shelves: Drop. · Shelves: Unread. · Shelves: the reference's EntryAt; SameEntries, SameTexts, SameShelf. -/
import Derived.Test.YthnpljkekhieiaaGreatDoorGrpV
set_option maxRecDepth 100000
set_option maxHeartbeats 4000000
namespace Go.Proofs.YthnpljkekhieiaaGreatDoor
open Go.RowKit
theorem ixB_cases (b:Nat → Bool) (n:Nat):(ixB b n = -1∧∀ j,j < n → b j = false) ∨ ∃ k,k < n∧ixB b n = k∧b k = true∧∀ j,j < k → b j = false:=by
 unfold ixB;cases h:(List.range n).find? b with
 | none => exact .inl ⟨rfl,fun j hj => by simpa using List.find?_eq_none.1 h j (List.mem_range.2 hj)⟩
 | some k =>
   rw [List.find?_range_eq_some] at h;exact .inr ⟨k,List.mem_range.1 h.2.1,rfl,h.1,fun j hj => by simpa using h.2.2 j hj⟩
def flt (P:Ent → Bool) (l:List Ent) (k:Nat):List Ent:=(l.take k).filter fun x => !P x
theorem flt_next (P:Ent → Bool) (l:List Ent) (k:Nat) (h:k < l.length):flt P l (k + 1) = flt P l k ++ if P l[k] then [] else [l[k]]:=by
 unfold flt;rw [take_snoc l k h,List.filter_append];congr 1;cases hc:P l[k] <;> simp only [List.filter_cons,List.filter_nil,hc] <;> rfl
theorem flt_all (P:Ent → Bool) (l:List Ent):flt P l l.length = l.filter fun x => !P x:=by unfold flt;rw [List.take_length]
theorem flt_none {P:Ent → Bool} {l:List Ent} {k:Nat} (h:∀ j (hj:j < l.length),j < k → P l[j] = false):flt P l k = l.take k:=by
 unfold flt;refine List.filter_eq_self.2 (fun x hx => ?_);obtain ⟨j,hj,rfl⟩:=List.getElem_of_mem hx;have h2:=hj;rw [List.length_take] at h2;rw [List.getElem_take,h j (by omega) (by omega)];rfl
theorem set5 (W:World) (g o:Nat) (x:Ent):((((W.setCell ⟨g,o,none⟩ (.string ⟨(eI x).toArray⟩)).setCell ⟨g,o + 1,none⟩ (.string ⟨(eT x).toArray⟩)).setCell ⟨g,o + 2,none⟩ (.string ⟨(eL x).toArray⟩)).setCell ⟨g,o + 3,none⟩ (.int .i64 (eA x))).setCell ⟨g,o + 4,none⟩ (.string ⟨(eH x).toArray⟩) = W.setCells g o (enQ x):=rfl
def Mid (w:World) (g cap:Nat) (P:Ent → Bool) (l:List Ent) (k:Nat):Prop :=
 ∃ cur,w.heap[g]? = some (.cells cur 36 (0,0))∧cur.size = cap * 5∧(∀ j,j < (flt P l k).length * 5 → cur[j]? = (enW (flt P l k))[j]?)∧∀ j,k * 5 ≤ j → j < l.length * 5 → cur[j]? = (enW l)[j]?
theorem Mid.of_bl {w W:World} {g cap:Nat} {P:Ent → Bool} {l:List Ent} {k:Nat} (h:Mid w g cap P l k) (hb:Bl w W):Mid W g cap P l k:=by
 obtain ⟨cur,h1,h2⟩:=h;exact ⟨cur,keep_bl h1 hb,h2⟩
theorem Mid.skip {w:World} {g cap:Nat} {P:Ent → Bool} {l:List Ent} {k:Nat} (h:Mid w g cap P l k) (hk:k < l.length) (hp:P l[k] = true):Mid w g cap P l (k + 1):=by
 obtain ⟨cur,h1,h2,h3,h4⟩:=h;have e:flt P l (k + 1) = flt P l k:=by rw [flt_next P l k hk,hp];simp
 exact ⟨cur,h1,h2,by rw [e];exact h3,fun j a b => h4 j (by omega) b⟩
theorem Mid.keep {w:World} {g cap:Nat} {P:Ent → Bool} {l:List Ent} {k:Nat} (h:Mid w g cap P l k) (hk:k < l.length) (hp:P l[k] = false) (hm:(flt P l k).length < k) (hc:l.length ≤ cap):Mid (w.setCells g ((flt P l k).length * 5) (enQ l[k])) g cap P l (k + 1):=by
 obtain ⟨cur,h1,h2,h3,h4⟩:=h;obtain ⟨cur', e1,e2,e3⟩:=setCells_hp g _ _ (enQ l[k]) ((flt P l k).length * 5) w cur h1;have e:flt P l (k + 1) = flt P l k ++ [l[k]]:=by rw [flt_next P l k hk,hp];rfl
 have hq:(enQ l[k]).length = 5:=rfl;refine ⟨cur', e1,by rw [e2,h2],fun j hj => ?_,fun j a b => ?_⟩
 · rw [e,List.length_append,List.length_singleton] at hj;have hx:enW (flt P l k ++ [l[k]]) = enW (flt P l k) ++ enQ l[k]:=by rw [enW_app];simp [enW]
   rw [e,hx,e3 j,hq];by_cases c:j < (flt P l k).length * 5
   · rw [if_neg (by omega),List.getElem?_append_left (by rw [enW_len];exact c),h3 j c]
   · rw [if_pos ⟨by omega,by omega,by omega⟩,List.getElem?_append_right (by rw [enW_len];omega),enW_len]
 · rw [e3 j,hq,if_neg (by omega),h4 j (by omega) b]
theorem Mid.cells {w:World} {g cap:Nat} {P:Ent → Bool} {l:List Ent} {k:Nat} (h:Mid w g cap P l k) (hk:k < l.length):w.cell? ⟨g,k * 5,none⟩ = some (.string ⟨(eI l[k]).toArray⟩)∧w.cell? ⟨g,k * 5 + 1,none⟩ = some (.string ⟨(eT l[k]).toArray⟩) ∧
 w.cell? ⟨g,k * 5 + 2,none⟩ = some (.string ⟨(eL l[k]).toArray⟩)∧w.cell? ⟨g,k * 5 + 3,none⟩ = some (.int .i64 (eA l[k]))∧w.cell? ⟨g,k * 5 + 4,none⟩ = some (.string ⟨(eH l[k]).toArray⟩):=by
 obtain ⟨cur,h1,h2,h3,h4⟩:=h;refine ⟨?_,?_,?_,?_,?_⟩
 · rw [cell_of_row h1,h4 _ (by omega) (by omega)];exact enW_at l k 0 hk (by omega)
 · rw [cell_of_row h1,h4 _ (by omega) (by omega)];exact enW_at l k 1 hk (by omega)
 · rw [cell_of_row h1,h4 _ (by omega) (by omega)];exact enW_at l k 2 hk (by omega)
 · rw [cell_of_row h1,h4 _ (by omega) (by omega)];exact enW_at l k 3 hk (by omega)
 · rw [cell_of_row h1,h4 _ (by omega) (by omega)];exact enW_at l k 4 hk (by omega)
theorem Mid.spare {w:World} {g cap:Nat} {P:Ent → Bool} {l:List Ent} {k:Nat} (h:Mid w g cap P l k) (j:Nat) (hj:j < cap * 5):(∃ u,w.cell? ⟨g,j,none⟩ = some u)∧w.frozen? ⟨g,j,none⟩ = false:=by
 obtain ⟨cur,h1,h2,h3,h4⟩:=h;exact ⟨⟨cur[j]'(by omega),by rw [cell_of_row h1,Array.getElem?_eq_getElem (by omega)]⟩,frozen_of_row h1⟩
theorem Mid.lt {w:World} {g cap:Nat} {P:Ent → Bool} {l:List Ent} {k:Nat} (h:Mid w g cap P l k):g < w.heap.size:=by
 obtain ⟨cur,h1,-⟩:=h;exact (Array.getElem?_eq_some_iff.1 h1).1
theorem delF_c (N:Nat) (pv:Value) (hcf:∀ (args:Array Value) (W:World),Sem.run Tryz.prog (callFunc N args) W = .ok (.enter N args) W) (base:Nat) (l:List Ent) (v:Value) (P:Ent → Bool) (hl:l.length ≤ 1000000) (w:World) (hO:EnO w base v l)
 (hgo:∀ x ∈ l,∀ W,w.grownBy W v.ownBlock → Calls Tryz.prog N #[pv,enV x] W fun e w' => e = .returned (.bool (P x))∧Bl W w') :
 Calls Tryz.prog 30 #[v,.func (.func N) #[pv] #[]] w fun e w' => ∃ v', e = .returned v' ∧ EnO w' base v' (l.filter fun x => !P x)∧w.grownBy w' v.ownBlock:=by
 have hEn:=hO.ens;have HO:=Lib.hid hO;have HGO:=Lib.hid hgo;obtain ⟨ao,cap,rfl,hcap,hA⟩:=hEn;have IC0:=fun (W:World) (hW:Bl w W) => indexF_M N pv hcf l.length cap ao (fun i => .string ⟨(eI (l.getD i zE)).toArray⟩) (fun i => .string ⟨(eT (l.getD i zE)).toArray⟩) (fun i => .string ⟨(eL (l.getD i zE)).toArray⟩) (fun i => .int .i64 (eA (l.getD i zE))) (fun i => .string ⟨(eH (l.getD i zE)).toArray⟩) (fun i => P (l.getD i zE)) (by omega) W (by
  obtain ⟨ao', cap', e,-,hA⟩:=hO.ens.of_bl hW;cases e;exact ens_hA hA) (fun i hi V hV => HGO.out _ (by rw [getD_get _ _ _ hi];exact List.getElem_mem hi) V (bl_gr hW (Bl.toGr hV _)))
 have IC:=Lib.hid IC0;rcases ixB_cases (fun i => P (l.getD i zE)) l.length with ⟨hix,hno⟩ | ⟨k0,hk0,hix,hyes,hno⟩
 · have hfl:(l.filter fun x => !P x) = l:=by
    rw [← flt_all,flt_none (fun j hj _ => by have:=hno j hj;rwa [getD_get _ _ _ hj] at this),List.take_length]
   rw [hix] at IC;rw [hfl];clear hA hgo IC0 hO;go_enter Tryz.func30,Tryz.ntmps30;go_wp2_with (go_at_call 45; (with_reducible refine (IC.out _ (Bl.refl _)).mono ?_);rintro e w1 ⟨rfl,hb1⟩);go_ret;exact ⟨_,rfl,HO.out.of_bl hb1,Bl.toGr hb1 _⟩
 · obtain ⟨g,cap', cur,e,hbg,hg,hnc,hcm,hcs,hcur⟩:=own_rowE hO (by omega);cases e;rw [hix] at IC;have hF0:flt P l (k0 + 1) = l.take k0:=by
    rw [flt_next P l k0 hk0];have:=hyes;rw [getD_get _ _ _ hk0] at this;rw [this,flt_none (fun j hj hjk => by have:=hno j hjk;rwa [getD_get _ _ _ hj] at this)];simp
   have hM0:Mid w g cap P l (k0 + 1):=⟨cur,hg,hcs,by
    rw [hF0,List.length_take];intro j hj;rw [hcur j (by omega),enW_take l k0 (by omega),List.getElem?_take,if_pos (by omega)],fun j _ b => hcur j b⟩
   have hl0:(flt P l (k0 + 1)).length = k0:=by rw [hF0,List.length_take];omega
   have HM0:=Lib.hid hM0;have hneg:((k0:Int) == -1) = false:=by rw [beq_eq_false_iff_ne];omega
   have hw1:IntKind.i64.wrap ((k0:Int) + 1) = (k0:Int) + 1:=by rw [IntKind.wrap_i64];omega
   clear hA hgo IC0 hO hM0 hg hcur hF0 hno hyes;go_enter Tryz.func30,Tryz.ntmps30;go_wp2_with (go_at_call 45; (with_reducible refine (IC.out _ (Bl.refl _)).mono ?_);rintro e w1 ⟨rfl,hb1⟩);clear hw1;go_loopw [5,6] (fun m i wr => ∃ k:Nat,k0 < k∧k ≤ l.length∧i = .int .i64 k∧m = .int .i64 (flt P l k).length∧Hid (Mid wr g cap P l k)∧(flt P l k).length < k∧w.grownBy wr (some g)) (fun _ i _ => l.length - (intOf i).toNat);case atStart => exact ⟨k0 + 1,by omega,by omega,rfl,by rw [hl0],Lib.hid (HM0.out.of_bl hb1),by omega,Bl.toGr hb1 _⟩
   case round =>
    obtain ⟨k,hk0k,hk,rfl,rfl,HM,hmk,hgr⟩:=hrel;have hglt:=HM.out.lt;by_cases hlt:k < l.length
    · obtain ⟨x1,x2,x3,x4,x5⟩:=HM.out.cells hlt;have GO0:=HGO.out l[k] (List.getElem_mem hlt);unfold enV at GO0;have HN:=Lib.hid (flt_next P l k hlt);cases hp:P l[k]
      · rw [hp] at GO0;have GO:=Lib.hid GO0;have HP:=Lib.hid hp;clear GO0 hp;have hmlt:(flt P l k).length < l.length:=by omega
        go_wp2_with ((with_reducible refine (GO.out _ (gr_bl hgr ((Bl.refl _).alloc _))).mono ?_);rintro e w2 ⟨rfl,hb2⟩;obtain ⟨lq,y0,y1,y2,y3,y4⟩:=(B5.new wr l[k] 36).of_bl hb2;have HM2:=Lib.hid ((HM.out.of_bl ((Bl.refl _).alloc _)).of_bl hb2);obtain ⟨⟨u0,z0⟩,f0⟩:=HM2.out.spare ((flt P l k).length * 5) (by omega);obtain ⟨⟨u1,z1⟩,f1⟩:=HM2.out.spare ((flt P l k).length * 5 + 1) (by omega);obtain ⟨⟨u2,z2⟩,f2⟩:=HM2.out.spare ((flt P l k).length * 5 + 2) (by omega);obtain ⟨⟨u3,z3⟩,f3⟩:=HM2.out.spare ((flt P l k).length * 5 + 3) (by omega);obtain ⟨⟨u4,z4⟩,f4⟩:=HM2.out.spare ((flt P l k).length * 5 + 4) (by omega));go_roundw;case rel =>
         have hln:(flt P l (k + 1)).length = (flt P l k).length + 1:=by rw [HN.out,HP.out];simp
         refine ⟨k + 1,by omega,by omega,by go_num,by rw [hln];go_num,?_,by omega,?_⟩
         · rw [set5];exact Lib.hid (HM2.out.keep hlt HP.out hmk hcap)
         · rw [set5];exact World.grownBy.trans (gr_bl hgr (Bl.trans ((Bl.refl _).alloc _) hb2)) (setCells_gr _ _ _ _)
        case measure => simp [intOf];omega
      · rw [hp] at GO0;have GO:=Lib.hid GO0;have HP:=Lib.hid hp;clear GO0 hp;go_wp2_with ((with_reducible refine (GO.out _ (gr_bl hgr ((Bl.refl _).alloc _))).mono ?_);rintro e w2 ⟨rfl,hb2⟩);go_roundw;case rel =>
         have hln:(flt P l (k + 1)).length = (flt P l k).length:=by rw [HN.out,HP.out];simp
         exact ⟨k + 1,by omega,by omega,by go_num,by rw [hln],Lib.hid ((HM.out.skip hlt HP.out).of_bl (Bl.trans ((Bl.refl _).alloc _) hb2)),by omega,gr_bl hgr (Bl.trans ((Bl.refl _).alloc _) hb2)⟩
        case measure => simp [intOf];omega
    · obtain rfl:k = l.length:=by omega
      obtain ⟨m,hm⟩:∃ m,m = (flt P l l.length).length:=⟨_,rfl⟩;have HF:=Lib.hid (flt_all P l);obtain ⟨cur1,hg1,hs1,hc1,-⟩:=HM.out;rw [← hm] at hmk;have hcl:=fun ty c => run_clear_ent wr ty g (m * 5) (l.length - m) c cur1 hg1 (by omega) (by rw [hs1];omega)
      obtain ⟨cur2,hg2,hs2,hc2⟩:=setCells_hp g _ _ (enW (List.replicate (l.length - m) zE)) (m * 5) wr cur1 hg1;have hgr2:=World.grownBy.trans hgr (setCells_gr g (enW (List.replicate (l.length - m) zE)) (m * 5) wr);obtain ⟨w3,hw3⟩:∃ w3,w3 = wr.setCells g (m * 5) (enW (List.replicate (l.length - m) zE)):=⟨_,rfl⟩;rw [← hw3] at hcl hg2 hgr2;have HRES:=Lib.hid (show ∃ v', Value.slice (some ⟨g,0,none⟩) m cap = v' ∧ EnO w3 base v' (l.filter fun x => !P x)∧w.grownBy w3 (some g) from by
       refine ⟨_,rfl,?_,hgr2⟩;unfold EnO;rw [← HF.out,← hm];refine own_mk hbg hg2 (by omega) hcm (by rw [hs2,hs1]) (by rw [enW_len,← hm]) (fun j hj => ?_);rw [hc2 j,if_neg (by omega)];exact hc1 j (by rw [← hm];exact hj))
      clear hg2 hs2 hc2 hgr2 hw3 hg1 hs1 hc1 HM hgr;have hcapm:¬ cap = m:=by omega
      have hml:m ≤ l.length:=by omega
      have hmc:m ≤ cap:=by omega
      simp only [← hm];clear hm;go_wp2;go_ret;obtain ⟨v', hv', hr⟩:=HRES.out;exact ⟨v', congrArg Ending.returned hv', hr⟩
theorem cf_was:∀ (args:Array Value) (W:World),Sem.run Tryz.prog (callFunc 29 args) W = .ok (.enter 29 args) W:=by
 intro args W;simp [callFunc,go_sem,Tryz.func29,Tryz.f29]
theorem drop_was {w W:World} {base b:Nat} {es:List Ent} {rd:List Nm} {ve vr:Value} (hb:w.heap[b]? = some (.cells #[ve,vr] 57)) (hE:EnO w base ve es) (hR:StO w base vr rd) (hbw:base ≤ w.heap.size) (hW:Bl w W) (hl:rd.length ≤ 1000000) :
 ∀ x ∈ es,∀ V,W.grownBy V ve.ownBlock → Calls Tryz.prog 29 #[.pointer (some ⟨b,0,none⟩),enV x] V fun e w' => e = .returned (.bool (fnT rd (eI x)))∧Bl V w':=fun x _ V hV => by
 obtain ⟨h1,h2,-⟩:=put_ins hb hE hR hbw hV hW;exact was_c b ve vr rd x hl V h1 h2.sts
theorem Drop_bad (s:Shf) (v:Value) (hI:∀ x ∈ s.1,(eI x).length ≤ 9223372036854775807) (hc:ckS s ≠ 0) (w:World) (hE:ES w) (hM:ML w) (hS:ShS w v s) :
 Calls Tryz.prog 10 #[v] w fun e w' => e = .returned (.tuple #[.agg #[.slice none 0 0,.slice none 0 0],.int .i64 0,.int .i64 (ckS s)])∧Bl w w':=by
 have CK:=Lib.hid (fun W (hh:Bl w W) => checkS_c s v hI W (hE.of_bl hh) (hM.of_bl hh) (hS.of_bl hh));obtain ⟨C,hC⟩:∃ C,C = ckS s:=⟨_,rfl⟩;rw [← hC] at CK hc ⊢;clear hC;obtain ⟨ve,vr,rfl,hEn,hRd⟩:=hS;obtain ⟨ao,cap,rfl,hcap,-⟩:=hEn;obtain ⟨ar,cr,rfl,hcr,-⟩:=hRd;have hq0:((w.alloc (.cells #[.slice ao s.1.length cap,.slice ar s.2.length cr] 25)).alloc (.cells #[.slice none 0 0,.slice none 0 0] 25)).heap[w.heap.size + 1]? = some (.cells #[.slice none 0 0,.slice none 0 0] 25):=by
  have:=heap_alloc_new (w.alloc (.cells #[.slice ao s.1.length cap,.slice ar s.2.length cr] 25)) (.cells #[.slice none 0 0,.slice none 0 0] 25);simpa using this
 have hp0:=keep_bl (heap_alloc_new w (.cells #[.slice ao s.1.length cap,.slice ar s.2.length cr] 25)) ((Bl.refl _).alloc (.cells #[.slice none 0 0,.slice none 0 0] 25));clear hE hM;go_enter Tryz.func10,Tryz.ntmps10;go_wp2_with (go_at_call 11; (with_reducible refine (CK.out _ Bl.z).mono ?_);rintro e w1 ⟨rfl,hb1⟩;have hW1:Bl w w1:=Bl.trans Bl.z hb1;have hp1:=keep_bl hp0 hb1;have hq1:=keep_bl hq0 hb1;obtain ⟨lp,p0,p1⟩:=keep_cells hp1;obtain ⟨lq,q0,q1⟩:=keep_cells hq1;have f0:=frozen_of_row (j:=0) hq1;have f1:=frozen_of_row (j:=1) hq1);refine bodyPost_ret (results_cell3 rfl _ _ (w.heap.size + 1) 25 #[.slice none 0 0,.slice none 0 0] (0,0) _ rfl (set2 hq1 hW1 (by omega)).1 Tryz.underlying25 rfl Tryz.infoShf) rfl ?_;exact ⟨rfl,(set2 hq1 hW1 (by omega)).2.1⟩
theorem Drop_ok (s:Shf) (v:Value) (hI:∀ x ∈ s.1,(eI x).length ≤ 9223372036854775807) (hck:ckS s = 0) (w:World) (hE:ES w) (hM:ML w) (hS:ShS w v s) :
 Calls Tryz.prog 10 #[v] w fun e w' => ∃ sv,e = .returned (.tuple #[sv,.int .i64 ((s.1.length:Int) - ((drL s).length:Int)),.int .i64 0])∧ShS w' sv (drL s,s.2)∧Bl w w':=by
 have CK:=Lib.hid (fun W (hh:Bl w W) => checkS_c s v hI W (hE.of_bl hh) (hM.of_bl hh) (hS.of_bl hh));rw [hck] at CK;have hRs:=(ckS_iff s).1 hck;obtain ⟨hs20,hs40,-,-,-⟩:=hRs;have OW:=Lib.hid (fun W (hh:Bl w W) => own_c s v (by omega) (by omega) W (hS.of_bl hh));have hcf:=cf_was;have hdl:(drL s).length ≤ 20:=Nat.le_trans (List.length_filter_le _ _) hs20;have HD:=Lib.hid (show (s.1.filter fun x => !fnT s.2 (eI x)) = drL s from rfl);obtain ⟨ve,vr,rfl,hEn,hRd⟩:=hS;obtain ⟨ao,cap,rfl,hcap,-⟩:=hEn;obtain ⟨ar,cr,rfl,hcr,-⟩:=hRd;have hq0:((w.alloc (.cells #[.slice ao s.1.length cap,.slice ar s.2.length cr] 25)).alloc (.cells #[.slice none 0 0,.slice none 0 0] 25)).heap[w.heap.size + 1]? = some (.cells #[.slice none 0 0,.slice none 0 0] 25):=by
  have:=heap_alloc_new (w.alloc (.cells #[.slice ao s.1.length cap,.slice ar s.2.length cr] 25)) (.cells #[.slice none 0 0,.slice none 0 0] 25);simpa using this
 have hp0:=keep_bl (heap_alloc_new w (.cells #[.slice ao s.1.length cap,.slice ar s.2.length cr] 25)) ((Bl.refl _).alloc (.cells #[.slice none 0 0,.slice none 0 0] 25));clear hE hM;go_enter Tryz.func10,Tryz.ntmps10;go_wp2_with (first | (go_at_call 11; (with_reducible refine (CK.out _ Bl.z).mono ?_);rintro e w1 ⟨rfl,hb1⟩;have hW1:Bl w w1:=Bl.trans Bl.z hb1;have hp1:=keep_bl hp0 hb1;have hq1:=keep_bl hq0 hb1;obtain ⟨lp,p0,p1⟩:=keep_cells hp1;obtain ⟨lq,q0,q1⟩:=keep_cells hq1;have f0:=frozen_of_row (j:=0) hq1;have f1:=frozen_of_row (j:=1) hq1) | (go_at_call 24; (with_reducible refine (OW.out _ hW1).mono ?_);rintro e w3 ⟨b3,rfl,⟨ve3,vr3,hb3,hbb3,hE3,hR3⟩,hbl3⟩;have hW3:=hW1.trans hbl3;have HE3:=Lib.hid hE3;have HR3:=Lib.hid hR3;have DC:=Lib.hid (fun W (hh:Bl w3 W) => delF_c 29 (.pointer (some ⟨b3,0,none⟩)) hcf w1.heap.size s.1 ve3 (fun x => fnT s.2 (eI x)) (by omega) W (HE3.out.of_bl hh) (drop_was hb3 HE3.out HR3.out (Below.size hbl3) hh (by omega)));obtain ⟨ae,ce,rfl,-⟩:=own_shp hE3;obtain ⟨at3,ct3,rfl,hct3⟩:=own_shp hR3;clear hE3 hR3;have hq3:=keep_bl hq1 hbl3;obtain ⟨lk3,k0,k1⟩:=keep_cells hb3) | (go_at_call 30; (with_reducible refine (DC.out _ Bl.z).mono ?_);rintro e w6 ⟨v6,rfl,hO6,hg6⟩;rw [HD.out] at hO6;obtain ⟨kb6,hR6,hB6⟩:=put_ins hb3 HE3.out HR3.out (Below.size hbl3) hg6 Bl.z;obtain ⟨lk6,c0,c1⟩:=keep_cells kb6;have d0:=frozen_of_row (j:=0) kb6;obtain ⟨ao6,cap6,rfl,-⟩:=own_shp hO6;obtain ⟨kb7,hO7,hR7,hB7⟩:=kp_set0 kb6 hO6 hR6 hbb3 (Nat.le_trans (Below.size hbl3) (Below.size hB6));have hB37:=Below.trans hB6 hB7;have hq6:=(Below.block hB6 _ lq).trans hq3;obtain ⟨lq6,t0,t1⟩:=keep_cells hq6;have u0:=frozen_of_row (j:=0) hq6;have u1:=frozen_of_row (j:=1) hq6;have hp6:=(Below.block hB6 _ lp).trans (keep_bl hp1 hbl3);obtain ⟨lp6,s0,s1⟩:=keep_cells hp6;have hqb:¬ (w.heap.size + 1 = b3):=(by omega);have hqb2:¬ (b3 = w.heap.size + 1):=(by omega);have hpb:¬ (w.heap.size = b3):=(by omega);have hpb2:¬ (b3 = w.heap.size):=(by omega);have hW7:=below_up hW3 hB37 (show w.heap.size ≤ w1.heap.size by omega);have hq7:=(Below.block hB37 _ lq).trans hq3;have HE7:=Lib.hid hO7;have HR7:=Lib.hid hR7;have HQ7:=Lib.hid hq7;clear hO7 hR7 hq7 kb7));go_region;go_wp2;have h2:=set2 (c:=.slice ao6 (drL s).length cap6) (d:=.slice at3 s.2.length ct3) HQ7.out hW7 (by omega);refine bodyPost_ret (results_cell3 rfl _ _ (w.heap.size + 1) 25 #[.slice ao6 (drL s).length cap6,.slice at3 s.2.length ct3] (0,0) _ rfl h2.1 Tryz.underlying25 rfl Tryz.infoShf) rfl ?_;exact ⟨_,rfl,(shelf_end HE7.out HR7.out h2.2.2 lq).of_bl ((Bl.refl _).drew),h2.2.1.drew⟩
def unA (s:Shf) (k:Nat):List Nm:=((s.1.take k).filter fun x => !fnT s.2 (eI x)).map eI
theorem unA_next (s:Shf) (k:Nat) (h:k < s.1.length):unA s (k + 1) = unA s k ++ if fnT s.2 (eI s.1[k]) then [] else [eI s.1[k]]:=by
 unfold unA;rw [take_snoc _ k h,List.filter_append,List.map_append];congr 1;cases hc:fnT s.2 (eI s.1[k]) <;> simp only [List.filter_cons,List.filter_nil,hc] <;> rfl
theorem unA_all (s:Shf):unA s s.1.length = unL s:=by unfold unA unL drL;rw [List.take_length]
theorem unA_len (s:Shf) (k:Nat):(unA s k).length ≤ k:=by
 unfold unA;rw [List.length_map];exact Nat.le_trans (List.length_filter_le _ _) (by rw [List.length_take];omega)
theorem un_news (w:World) (x:Value):∀ j u,([x]:List Value)[j]? = some u → (w.alloc (.cells #[x] 9)).cell? ((⟨w.heap.size,0,none⟩:Addr).add j) = some u:=fun j u hj => by
 rw [addr_at,cell_of_row (heap_alloc_new w _)];simpa using hj
theorem sto_nil (w:World) (base:Nat):StO w base (.slice none 0 0) []:=⟨rfl,.inl ⟨rfl,rfl⟩⟩
theorem Unread_bad (s:Shf) (v:Value) (hI:∀ x ∈ s.1,(eI x).length ≤ 9223372036854775807) (hc:ckS s ≠ 0) (w:World) (hE:ES w) (hM:ML w) (hS:ShS w v s) :
 Calls Tryz.prog 9 #[v] w fun e w' => e = .returned (.tuple #[.slice none 0 0,.int .i64 (ckS s)])∧Bl w w':=by
 have CK:=Lib.hid (fun W (hh:Bl w W) => checkS_c s v hI W (hE.of_bl hh) (hM.of_bl hh) (hS.of_bl hh));obtain ⟨C,hC⟩:∃ C,C = ckS s:=⟨_,rfl⟩;rw [← hC] at CK hc ⊢;clear hC;obtain ⟨ve,vr,rfl,hEn,hRd⟩:=hS;obtain ⟨ao,cap,rfl,hcap,-⟩:=hEn;obtain ⟨ar,cr,rfl,hcr,-⟩:=hRd;have hp0:=heap_alloc_new w (.cells #[.slice ao s.1.length cap,.slice ar s.2.length cr] 25);clear hE hM;go_enter Tryz.func9,Tryz.ntmps9;go_wp2_with (go_at_call 11; (with_reducible refine (CK.out _ Bl.z).mono ?_);rintro e w1 ⟨rfl,hb1⟩;have hW1:Bl w w1:=Bl.trans Bl.z hb1;have hp1:=keep_bl hp0 hb1;obtain ⟨lp,p0,p1⟩:=keep_cells hp1);go_ret2;exact ⟨rfl,hW1⟩
theorem Unread_ok (s:Shf) (v:Value) (hI:∀ x ∈ s.1,(eI x).length ≤ 9223372036854775807) (hck:ckS s = 0) (w:World) (hE:ES w) (hM:ML w) (hS:ShS w v s) :
 Calls Tryz.prog 9 #[v] w fun e w' => ∃ v', e = .returned (.tuple #[v', .int .i64 0])∧StS w' v' (unL s)∧Bl w w':=by
 have CK:=Lib.hid (fun W (hh:Bl w W) => checkS_c s v hI W (hE.of_bl hh) (hM.of_bl hh) (hS.of_bl hh));rw [hck] at CK;have hRs:=(ckS_iff s).1 hck;obtain ⟨hs20,hs40,-,-,-⟩:=hRs;have OW:=Lib.hid (fun W (hh:Bl w W) => own_c s v (by omega) (by omega) W (hS.of_bl hh));obtain ⟨i0,hi,hz0,hz1,hz2⟩:=info_parts Tryz.infoStr;obtain ⟨ve,vr,rfl,hEn,hRd⟩:=hS;obtain ⟨ao,cap,rfl,hcap,-⟩:=hEn;obtain ⟨ar,cr,rfl,hcr,-⟩:=hRd;have hp0:=heap_alloc_new w (.cells #[.slice ao s.1.length cap,.slice ar s.2.length cr] 25);clear hE hM;go_enter Tryz.func9,Tryz.ntmps9;go_wp2_with (first | (go_at_call 11; (with_reducible refine (CK.out _ Bl.z).mono ?_);rintro e w1 ⟨rfl,hb1⟩;have hW1:Bl w w1:=Bl.trans Bl.z hb1;have hp1:=keep_bl hp0 hb1;obtain ⟨lp,p0,p1⟩:=keep_cells hp1) | (go_at_call 24; (with_reducible refine (OW.out _ hW1).mono ?_);rintro e w3 ⟨b3,rfl,⟨ve3,vr3,hb3,hbb3,hE3,hR3⟩,hbl3⟩;have hW3:=hW1.trans hbl3;have HEN:=Lib.hid hE3.ens;have WC0:=fun W (hh:Bl w3 W) x => was_c b3 ve3 vr3 s.2 x (by omega) W (keep_bl hb3 hh) (hR3.sts.of_bl hh);unfold enV at WC0;have WC:=Lib.hid WC0;clear WC0;obtain ⟨ae,ce,rfl,hce⟩:=own_shp hE3;obtain ⟨at3,ct3,rfl,hct3⟩:=own_shp hR3;clear hE3 hR3;obtain ⟨lk3,k0,k1⟩:=keep_cells hb3));go_loopw [6,22] (fun u i wr => ∃ k:Nat,k ≤ s.1.length∧i = .int .i64 k∧Hid (StO wr w3.heap.size u (unA s k))∧Bl w3 wr) (fun _ i _ => s.1.length - (intOf i).toNat);case atStart => exact ⟨0,Nat.zero_le _,rfl,Lib.hid (sto_nil _ _),Bl.refl _⟩
 case round =>
  obtain ⟨k,hk,rfl,HU,hbl⟩:=hrel;obtain ⟨au,cu,rfl,hcu⟩:=own_shp HU.out;by_cases hlt:k < s.1.length
  · obtain ⟨a', c', e', -,hA⟩:=HEN.out;cases e';obtain ⟨g,o,rfl,hg,h1,h2,h3,h4,h5⟩:=hA k hlt;have x1:=(hbl.cells.1 g _ hg).trans h1;have x2:=(hbl.cells.1 g _ hg).trans h2;have x3:=(hbl.cells.1 g _ hg).trans h3;have x4:=(hbl.cells.1 g _ hg).trans h4;have x5:=(hbl.cells.1 g _ hg).trans h5;clear h1 h2 h3 h4 h5 hA;have HN:=Lib.hid (unA_next s k hlt);have hul:=unA_len s k;have WK0:=fun W (hh:Bl w3 W) => WC.out W hh s.1[k]
    cases hp:fnT s.2 (eI s.1[k])
    · rw [hp] at WK0;have WK:=Lib.hid WK0;have HP:=Lib.hid hp;clear WK0 hp;go_wp2_with (first | (go_at_call 29; (with_reducible refine (WK.out _ (Bl.trans hbl Bl.z)).mono ?_);rintro e w4 ⟨rfl,hb4⟩;obtain ⟨lq,y0,y1,y2,y3,y4⟩:=(B5.new wr s.1[k] 36).of_bl hb4;have HU4:=Lib.hid ((HU.out.of_bl ((Bl.refl _).alloc _)).of_bl hb4);have hb04:=hbl.trans (Bl.trans Bl.z hb4)) | (at_builtin;refine wpList_append_own _ rfl _ _ 23 rfl w3.heap.size 9 i0 (.string ⟨#[]⟩) 1 16 Tryz.underlying23 hi hz0 hz1 hz2 rfl (by decide) (.slice au (unA s k).length cu) (unA s k).length (strV (unA s k)) rfl ?_ ⟨w4.heap.size,0,none⟩ 1 1 ([.string ⟨(eI s.1[k]).toArray⟩]:List Value) rfl rfl ?_ (strQ_one (eI s.1[k])) ?_ ?_ ?_ ?_; (exact HU4.out.of_bl ((Bl.refl _).alloc _)); (exact un_news w4 _); (unfold maxLen;omega);omega; (exact Nat.le_trans (Below.size hb04) (by simp));intro v5 w5 hown5 hgr5 _));go_roundw;case rel =>
       refine ⟨k + 1,by omega,by go_num,Lib.hid ?_,?_⟩
       · rw [HN.out,HP.out];unfold StO;rw [strV_app];simp only [Bool.false_eq_true,if_false,List.length_append,List.length_singleton];exact hown5
       · exact Below.trans (hb04.alloc _) (gr_below hgr5 (Nat.le_trans (Below.size hb04) (by simp)) (fun q hq => (own_bas HU4.out hq).1))
      case measure => simp [intOf];omega
    · rw [hp] at WK0;have WK:=Lib.hid WK0;have HP:=Lib.hid hp;clear WK0 hp;go_wp2_with (go_at_call 29; (with_reducible refine (WK.out _ (Bl.trans hbl Bl.z)).mono ?_);rintro e w4 ⟨rfl,hb4⟩);go_roundw;case rel => exact ⟨k + 1,by omega,by go_num,Lib.hid (by rw [HN.out,HP.out];simpa using (HU.out.of_bl ((Bl.refl _).alloc _)).of_bl hb4),hbl.trans (Bl.trans Bl.z hb4)⟩
      case measure => simp [intOf];omega
  · obtain rfl:k = s.1.length:=by omega
    have HA:=Lib.hid (unA_all s);go_wp2;go_ret2;exact ⟨_,rfl,by rw [← HA.out];exact HU.out.sts,hW3.trans hbl⟩
theorem entryAt_c (l:List Ent) (v:Value) (i:Nm) (hl:l.length ≤ 1099511627776) (w:World) (hA:EnS w v l) :
 Calls Tryz.prog 14 #[v,.string ⟨i.toArray⟩] w fun e w' => e = .returned (.int .i64 (plI l i))∧w = w':=by
 obtain ⟨ao,cap,rfl,hcap,hA⟩:=hA;have HPL:=Lib.hid (ixB_pl l i);go_enter Tryz.func14,Tryz.ntmps14;go_wp2;go_loopw [5] (fun j wr => ∃ k:Nat,k ≤ l.length∧j = .int .i64 k∧Hid (∀ j,j < k → decide (eI (l.getD j zE) = i) = false)∧w = wr) (fun j _ => l.length - (intOf j).toNat);case atStart => exact ⟨0,Nat.zero_le _,rfl,Lib.hid (fun j h => by omega),rfl⟩
 case round =>
  obtain ⟨k,hk,rfl,HP,rfl⟩:=hrel;by_cases hlt:k < l.length
  · obtain ⟨g,o,rfl,hg,h1,-,-,-,-⟩:=hA k hlt;have hgd:l.getD k zE = l[k]:=getD_get _ _ _ hlt;clear hA;by_cases he:eI l[k] = i
    · have HE:=Lib.hid he;have hne:(eI l[k] == i) = true:=by simp [he]
      clear he;go_wp2;go_ret;exact ⟨ret_int (by rw [← HPL.out];exact (ixB_hit _ _ k hlt (by rw [hgd];exact decide_eq_true HE.out) HP.out).symm),rfl⟩
    · have HE:=Lib.hid he;have hne:(eI l[k] == i) = false:=by simpa using he
      clear he;go_wp2;go_roundw;case rel =>
       refine ⟨k + 1,by omega,by go_num,Lib.hid (fun j hjk => ?_),by trivial⟩;by_cases e:j = k
       · subst e;rw [hgd];exact decide_eq_false HE.out
       · exact HP.out j (by omega)
      case measure => simp [intOf];omega
  · clear hA;go_wp2;go_ret;exact ⟨ret_int (by rw [← HPL.out];exact (ixB_miss _ _ (fun j hj => HP.out j (by omega))).symm),rfl⟩
theorem neq_ent (a b:Ent) (W:World):(binOp .neq 36 (enV a) (enV b)).run Tryz.prog W = .ok (.bool (decide (a ≠ b))) W:=by
 have hS:Tryz.prog.underlying 36 = some (.struct (Tryz.prog.fieldsOf 36)):=by kernel_rfl
 have hp:Tryz.prog.stoodInHeld 36 = false:=by kernel_rfl
 have hs:=Tryz.underlying9;have hi:=Tryz.underlying3;unfold enV;rw [run_neq_struct,show (10000:Nat) = 9999 + 1 from rfl,run_equalIn_agg W 9999 36 _ _ hS hp];simp only [Program.fieldsOf,Tryz.underlying36]
 go_simp
 obtain ⟨a1,a2,a3,a4,a5⟩:=a;obtain ⟨b1,b2,b3,b4,b5⟩:=b;simp only [eI,eT,eL,eA,eH];by_cases h1:a1 = b1 <;> by_cases h2:a2 = b2 <;> by_cases h3:a3 = b3 <;> by_cases h4:a4 = b4 <;> by_cases h5:a5 = b5 <;> simp [h1,h2,h3,h4,h5]
theorem sameE_c (a b:List Ent) (va vb:Value) (hl:a.length ≤ 1099511627776) (w:World) (hA:EnS w va a) (hB:EnS w vb b) :
 Calls Tryz.prog 12 #[va,vb] w fun e w' => e = .returned (.bool (decide (a = b)))∧Qt w w':=by
 obtain ⟨ao,ca,rfl,hca,hA⟩:=hA;obtain ⟨bo,cb,rfl,hcb,hB⟩:=hB;by_cases hlen:a.length = b.length
 · have hlen':((a.length:Int) != (b.length:Int)) = false:=by simp [hlen]
   have HL:=Lib.hid hlen;have hl2:b.length ≤ 1099511627776:=by omega
   go_enter Tryz.func12,Tryz.ntmps12;clear hlen;go_wp2;go_loopw [5] (fun i wr => ∃ k:Nat,k ≤ a.length∧i = .int .i64 k∧Hid (∀ j (h1:j < a.length) (h2:j < b.length),j < k → a[j] = b[j])∧Qt w wr) (fun i _ => a.length - (intOf i).toNat);case atStart => exact ⟨0,Nat.zero_le _,rfl,Lib.hid (fun j _ _ h => by omega),Qt.refl _⟩
   case round =>
    obtain ⟨k,hk,rfl,HP,hq⟩:=hrel;by_cases hlt:k < a.length
    · have hltb:k < b.length:=by have:=HL.out;omega
      have hltb':(k:Int) < (b.length:Int):=by omega
      obtain ⟨g,o,rfl,hg,h1,h2,h3,h4,h5⟩:=hA k hlt;obtain ⟨g', o', rfl,hg', h1', h2', h3', h4', h5'⟩:=hB k hltb;have x1:=(hq.bl.cells.1 g _ hg).trans h1;have x2:=(hq.bl.cells.1 g _ hg).trans h2;have x3:=(hq.bl.cells.1 g _ hg).trans h3;have x4:=(hq.bl.cells.1 g _ hg).trans h4;have x5:=(hq.bl.cells.1 g _ hg).trans h5;have y1:=(hq.bl.cells.1 g' _ hg').trans h1';have y2:=(hq.bl.cells.1 g' _ hg').trans h2';have y3:=(hq.bl.cells.1 g' _ hg').trans h3';have y4:=(hq.bl.cells.1 g' _ hg').trans h4';have y5:=(hq.bl.cells.1 g' _ hg').trans h5';clear h1 h2 h3 h4 h5 h1' h2' h3' h4' h5' hA hB;have hnq:=fun W => neq_ent a[k] b[k] W
      unfold enV at hnq;have hmm:Tryz.prog.eqGuardType Tryz.prog.depth 36 = false:=by kernel_rfl
      by_cases he:a[k] = b[k]
      · have hne:decide (a[k] ≠ b[k]) = false:=by simp [he]
        have HE:=Lib.hid he;clear he;go_wp2_with (go_quiet (fail));go_roundw;case rel =>
         refine ⟨k + 1,by omega,by go_num,Lib.hid (fun j h1 h2 hj => ?_),hq.drewN _⟩;by_cases e:j = k
         · subst e;exact HE.out
         · exact HP.out j h1 h2 (by omega)
        case measure => simp [intOf];omega
      · have hne:decide (a[k] ≠ b[k]) = true:=by simp [he]
        have HE:=Lib.hid (list_ne k hlt hltb he);clear he;go_wp2_with (go_quiet (fail));go_ret;exact ⟨ret_bool (by rw [decide_eq_false HE.out]),hq.drewN _⟩
    · have HE:=Lib.hid (list_eq HL.out (fun j h1 h2 => HP.out j h1 h2 (by omega)));go_wp2;go_ret;exact ⟨ret_bool (by rw [HE.out];simp),hq⟩
 · have hlen':((a.length:Int) != (b.length:Int)) = true:=by simp;omega
   have HL:=Lib.hid hlen;clear hlen;go_enter Tryz.func12,Tryz.ntmps12;go_wp2;go_ret;exact ⟨ret_bool (by rw [decide_eq_false (fun h => HL.out (by rw [h]))]),Qt.refl _⟩
theorem sameT_c (a b:List Nm) (va vb:Value) (hl:a.length ≤ 1099511627776) (w:World) (hA:StS w va a) (hB:StS w vb b) :
 Calls Tryz.prog 21 #[va,vb] w fun e w' => e = .returned (.bool (decide (a = b)))∧Qt w w':=by
 obtain ⟨ao,ca,rfl,hca,hA⟩:=hA;obtain ⟨bo,cb,rfl,hcb,hB⟩:=hB;by_cases hlen:a.length = b.length
 · have hlen':((a.length:Int) != (b.length:Int)) = false:=by simp [hlen]
   have HL:=Lib.hid hlen;have hl2:b.length ≤ 1099511627776:=by omega
   go_enter Tryz.func21,Tryz.ntmps21;clear hlen;go_wp2;go_loopw [5] (fun i wr => ∃ k:Nat,k ≤ a.length∧i = .int .i64 k∧Hid (∀ j (h1:j < a.length) (h2:j < b.length),j < k → a[j] = b[j])∧Qt w wr) (fun i _ => a.length - (intOf i).toNat);case atStart => exact ⟨0,Nat.zero_le _,rfl,Lib.hid (fun j _ _ h => by omega),Qt.refl _⟩
   case round =>
    obtain ⟨k,hk,rfl,HP,hq⟩:=hrel;by_cases hlt:k < a.length
    · have hltb:k < b.length:=by have:=HL.out;omega
      have hltb':(k:Int) < (b.length:Int):=by omega
      obtain ⟨g,o,rfl,hg,h1⟩:=hA k hlt;obtain ⟨g', o', rfl,hg', h1'⟩:=hB k hltb;have x1:=(hq.bl.cells.1 g _ hg).trans h1;have y1:=(hq.bl.cells.1 g' _ hg').trans h1';clear h1 h1' hA hB;by_cases he:a[k] = b[k]
      · have hne:(a[k] == b[k]) = true:=by simp [he]
        have HE:=Lib.hid he;clear he;go_wp2_with (go_quiet (fail));go_roundw;case rel =>
         refine ⟨k + 1,by omega,by go_num,Lib.hid (fun j h1 h2 hj => ?_),hq.drewN _⟩;by_cases e:j = k
         · subst e;exact HE.out
         · exact HP.out j h1 h2 (by omega)
        case measure => simp [intOf];omega
      · have hne:(a[k] == b[k]) = false:=by simpa using he
        have HE:=Lib.hid (list_ne k hlt hltb he);clear he;go_wp2_with (go_quiet (fail));go_ret;exact ⟨ret_bool (by rw [decide_eq_false HE.out]),hq.drewN _⟩
    · have HE:=Lib.hid (list_eq HL.out (fun j h1 h2 => HP.out j h1 h2 (by omega)));go_wp2;go_ret;exact ⟨ret_bool (by rw [HE.out];simp),hq⟩
 · have hlen':((a.length:Int) != (b.length:Int)) = true:=by simp;omega
   have HL:=Lib.hid hlen;clear hlen;go_enter Tryz.func21,Tryz.ntmps21;go_wp2;go_ret;exact ⟨ret_bool (by rw [decide_eq_false (fun h => HL.out (by rw [h]))]),Qt.refl _⟩
theorem sameSh_c (a b:Shf) (va vb:Value) (hl:a.1.length ≤ 1099511627776) (hl2:a.2.length ≤ 1099511627776) (w:World) (hA:ShS w va a) (hB:ShS w vb b) :
 Calls Tryz.prog 22 #[va,vb] w fun e w' => e = .returned (.bool (decide (a.1 = b.1∧a.2 = b.2)))∧Bl w w':=by
 obtain ⟨va1,va2,rfl,hA1,hA2⟩:=hA;obtain ⟨vb1,vb2,rfl,hB1,hB2⟩:=hB;have EC:=Lib.hid (fun W (hh:Bl w W) => sameE_c a.1 b.1 va1 vb1 hl W (hA1.of_bl hh) (hB1.of_bl hh));have TC:=Lib.hid (fun W (hh:Bl w W) => sameT_c a.2 b.2 va2 vb2 hl2 W (hA2.of_bl hh) (hB2.of_bl hh));obtain ⟨a1,c1,rfl,-,-⟩:=hA1;obtain ⟨a2,c2,rfl,-,-⟩:=hA2;obtain ⟨a3,c3,rfl,-,-⟩:=hB1;obtain ⟨a4,c4,rfl,-,-⟩:=hB2;by_cases h1:a.1 = b.1
 · have HE:=Lib.hid (show decide (a.1 = b.1∧a.2 = b.2) = decide (a.2 = b.2) from by
    rw [decide_eq_decide];exact ⟨fun h => h.2,fun h => ⟨h1,h⟩⟩)
   rw [decide_eq_true h1] at EC;clear h1;go_enter Tryz.func22,Tryz.ntmps22;go_wp2_with (first | (go_at_call 12; (with_reducible refine (EC.out _ Bl.z).mono ?_);rintro e w' ⟨rfl,n,rfl⟩) | (go_at_call 21; (with_reducible refine (TC.out _ Bl.z).mono ?_);rintro e w' ⟨rfl,n2,rfl⟩));all_goals
    go_ret;exact ⟨ret_bool (by rw [HE.out]),Bl.z⟩
 · have HE:=Lib.hid (show decide (a.1 = b.1∧a.2 = b.2) = false from decide_eq_false (fun h => h1 h.1));rw [decide_eq_false h1] at EC;clear h1;go_enter Tryz.func22,Tryz.ntmps22;go_wp2_with (go_at_call 12; (with_reducible refine (EC.out _ Bl.z).mono ?_);rintro e w' ⟨rfl,n,rfl⟩);all_goals
    go_ret;exact ⟨ret_bool (by rw [HE.out]),Bl.z⟩
end Go.Proofs.YthnpljkekhieiaaGreatDoor

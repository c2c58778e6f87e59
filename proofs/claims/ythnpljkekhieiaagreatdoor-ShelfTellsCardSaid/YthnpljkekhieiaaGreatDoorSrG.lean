/- Shelves: the reference: PutEntries. -/
import Derived.Test.YthnpljkekhieiaaGreatDoorSrF
import Derived.Test.YthnpljkekhieiaaGreatDoorGrpY
set_option maxRecDepth 100000
set_option maxHeartbeats 16000000
namespace Go.Proofs.YthnpljkekhieiaaGreatDoor
open Go.RowKit
theorem rpG_len (x:Ent) (k:Int) (l:List Ent):∀ (n:Nat) (st:List Ent × Bool),(rpG x k n l st).1.length + (if (rpG x k n l st).2 then 0 else 1) ≤ st.1.length + (if st.2 then 0 else 1) + l.length:=by
 induction l with
 | nil => intro n st;exact Nat.le_refl _
 | cons y l ih =>
   intro n st;simp only [rpG,List.length_cons];refine Nat.le_trans (ih _ _) ?_;split
   · omega
   · split
     · rename_i h;obtain ⟨h1,-⟩:=h;simp [h1];omega
     · simp;omega
theorem rput_len (l:List Ent) (x:Ent):(rput l x).length ≤ l.length + 1:=by
 unfold rput;split
 · omega
 · have h:=rpG_len x (plI l (eI x)) l 0 ([],false);unfold rpF;split
   · rename_i e;rw [e] at h;simp at h;exact Nat.le_trans h (by omega)
   · rename_i e;rw [if_neg e] at h;simp at h ⊢;omega
theorem rputs_len (ls:List Ent):∀ l:List Ent,(ls.foldl rput l).length ≤ l.length + ls.length:=by
 induction ls with
 | nil => intro l;simp
 | cons x ls ih =>
   intro l;rw [List.foldl_cons,List.length_cons];have h1:=ih (rput l x);have h2:=rput_len l x;omega
theorem rpG_mem (x:Ent) (k:Int) (l:List Ent):∀ (n:Nat) (st:List Ent × Bool),∀ y ∈ (rpG x k n l st).1,y ∈ st.1 ∨ y ∈ l ∨ y = x:=by
 induction l with
 | nil => intro n st y hy;exact .inl hy
 | cons z l ih =>
   intro n st y hy;simp only [rpG] at hy;rcases ih _ _ y hy with h | h | h
   · split at h
     · exact .inl h
     · split at h
       · simp only [List.mem_append,List.mem_cons,List.not_mem_nil,or_false] at h;rcases h with h | h | h
         · exact .inl h
         · exact .inr (.inr h)
         · exact .inr (.inl (by simp [h]))
       · simp only [List.mem_append,List.mem_cons,List.not_mem_nil,or_false] at h;rcases h with h | h
         · exact .inl h
         · exact .inr (.inl (by simp [h]))
   · exact .inr (.inl (by simp [h]))
   · exact .inr (.inr h)
theorem rput_mem {l:List Ent} {x y:Ent} (h:y ∈ rput l x):y ∈ l ∨ y = x:=by
 unfold rput at h;split at h
 · exact .inl h
 · have hm:∀ y ∈ (rpG x (plI l (eI x)) 0 l ([],false)).1,y ∈ l ∨ y = x:=fun y hy => by
    rcases rpG_mem x _ l 0 _ y hy with h | h | h
    · simp at h
    · exact .inl h
    · exact .inr h
   unfold rpF at h;split at h
   · exact hm y h
   · rcases List.mem_append.1 h with h | h
     · exact hm y h
     · exact .inr (by simpa using h)
theorem rputs_mem (ls:List Ent):∀ (l:List Ent),∀ y ∈ ls.foldl rput l,y ∈ l ∨ y ∈ ls:=by
 induction ls with
 | nil => intro l y h;exact .inl h
 | cons x ls ih =>
   intro l y h;rw [List.foldl_cons] at h;rcases ih _ y h with h | h
   · rcases rput_mem h with h | h
     · exact .inl h
     · exact .inr (by simp [h])
   · exact .inr (by simp [h])
theorem rputs_next (l:List Ent) (s:List Ent) (k:Nat) (h:k < l.length):(l.take (k + 1)).foldl rput s = rput ((l.take k).foldl rput s) l[k]:=by
 rw [take_snoc l k h,List.foldl_append];rfl
theorem rpG_at (x:Ent) (k:Int) (l:List Ent) (n:Nat) (h:n < l.length) (st:List Ent × Bool) :
 rpG x k n (l.drop n) st = rpG x k (n + 1) (l.drop (n + 1)) (if (n:Int) = k then st else if st.2 = false∧ahB x l[n] = true then (st.1 ++ [x,l[n]],true) else (st.1 ++ [l[n]],st.2)):=by
 rw [List.drop_eq_getElem_cons h,rpG]
theorem eno_two {w:World} {base:Nat} {v:Value} {l:List Ent} {x y:Ent} (h:w.ownsRow base 36 5 v (l.length + 1 + 1) (enW l ++ enQ x ++ enQ y)):EnO w base v (l ++ [x,y]):=by
 unfold EnO;rw [enW_app,List.length_append];simpa [enW,List.append_assoc] using h
def rcn (s l:List Ent) (k:Nat):Nat:=((l.take k).filter fun x => rnew s x).length
def rpL (s:Shf) (l:List Ent):List Ent:=(l.foldl rput s.1).take 20
def rpN (s:Shf) (l:List Ent):Nat:=rcn s.1 (rpL s l) (rpL s l).length
theorem rcn_next (s l:List Ent) (k:Nat) (h:k < l.length):rcn s l (k + 1) = rcn s l k + if rnew s l[k] = true then 1 else 0:=by
 unfold rcn;rw [take_snoc l k h,List.filter_append,List.length_append];cases hc:rnew s l[k] <;> simp [hc]
theorem rcn_le (s l:List Ent) (k:Nat):rcn s l k ≤ k:=by
 unfold rcn;exact Nat.le_trans (List.length_filter_le _ _) (by rw [List.length_take];omega)
theorem putEnR_c (s:Shf) (ve vr va:Value) (l:List Ent) (h20:s.1.length ≤ 20) (hl12:l.length ≤ 12) (h60:∀ x ∈ s.1,(eI x).length ≤ 60) (hl60:∀ x ∈ l,(eI x).length ≤ 60) (w:World) (hS:ShS w (.agg #[ve,vr]) s) (hA:EnS w va l) :
 Calls Tryz.prog 17 #[.agg #[ve,vr],va] w fun e w' => ∃ sv,e = .returned (.tuple #[sv,.int .i64 ((rpN s l:Nat):Int)])∧ShK w' w.heap.size sv ve vr s (rpL s l,s.2)∧Bl w w':=by
 obtain ⟨i0,hi,hz0,hz1,hz2⟩:=info_parts Tryz.infoEnt;obtain ⟨ve', vr', e0,hEn,hRd⟩:=hS;cases e0;have HEn:=Lib.hid hEn;have HRd:=Lib.hid hRd;have HAl:=Lib.hid hA;obtain ⟨ao,cap,rfl,hcap,-⟩:=hEn;obtain ⟨ar,cr,rfl,hcr,-⟩:=hRd;obtain ⟨aa,ca,rfl,hca,-⟩:=hA;obtain ⟨W0,hW0⟩:∃ W0,W0 = (w.alloc (.cells #[.slice ao s.1.length cap,.slice ar s.2.length cr] 25)).alloc (.cells #[.slice none 0 0,.slice none 0 0] 25):=⟨_,rfl⟩;have hsz:W0.heap.size = w.heap.size + 1 + 1:=by rw [hW0];simp
 have hq0:W0.heap[w.heap.size + 1]? = some (.cells #[.slice none 0 0,.slice none 0 0] 25):=by
  rw [hW0];have:=heap_alloc_new (w.alloc (.cells #[.slice ao s.1.length cap,.slice ar s.2.length cr] 25)) (.cells #[.slice none 0 0,.slice none 0 0] 25);simpa using this
 have Q0:B2 W0 w.heap.size (.slice ao s.1.length cap) (.slice ar s.2.length cr):=by rw [hW0];exact (B2.new w _ _ _).of_bl ((Bl.refl _).alloc _)
 have hb0:Bl w W0:=by rw [hW0];exact ((Bl.refl _).alloc _).alloc _
 have hm:=World.ownsRow_made (base:=W0.heap.size) (e:=36) (size:=5) W0 #[] 0 (Nat.le_refl _) (by decide) rfl;obtain ⟨v1,w1,hr1,ho1,hg1⟩:=run_append_ents (P:=Tryz.prog) (W0.alloc (.cells #[] 36)) W0.heap.size 22 22 36 i0 _ 72 Tryz.underlying22 hi hz0 hz1 hz2 rfl _ 0 [] hm _ s.1 ((HEn.out.of_bl hb0).of_bl ((Bl.refl _).alloc _)) (by unfold maxLen;omega) (by omega) (by simp);have hbl1:Bl W0 w1:=Below.trans ((Bl.refl W0).alloc _) (gr_below hg1 (by simp) (fun q hq => by simp only [Value.ownBlock,Option.some.injEq] at hq;omega));have HO1:=Lib.hid (show EnO w1 W0.heap.size v1 s.1 from by unfold EnO;simpa using ho1);obtain ⟨p1,hq1a⟩:∃ p,p = w1.cell? ⟨w.heap.size,0,none⟩:=⟨_,rfl⟩;obtain ⟨l00,p0a,p0b⟩:=(B2.new w (.slice ao s.1.length cap) (.slice ar s.2.length cr) 25);clear ho1 hg1 hm hq1a;rw [hsz] at hr1;rw [hW0] at hr1;have HW0:=Lib.hid hW0;have HSZ:=Lib.hid hsz;clear hW0 hsz;go_enter Tryz.func17,Tryz.ntmps17;go_wp2_with (at_builtin;refine Lib.wpList_append_run _ rfl _ _ _ _ rfl _ _ rfl rfl _ _ hr1 ?_;clear hr1);clear l00 p0a p0b;go_loopw [6,7] (fun u j wr => ∃ k:Nat,k ≤ l.length∧j = .int .i64 k∧Hid (EnO wr W0.heap.size u ((l.take k).foldl rput s.1))∧Bl W0 wr) (fun _ j _ => l.length - (intOf j).toNat);case atStart => exact ⟨0,Nat.zero_le _,rfl,HO1,hbl1⟩
 case round =>
  obtain ⟨k,hk,rfl,HU,hbl⟩:=hrel;have hU:=HU.out;obtain ⟨au,cu,rfl,hcu⟩:=own_shp hU;clear hU;have hbw:=hb0.trans hbl;have hlen:=rputs_len (l.take k) s.1;have hmem:=rputs_mem (l.take k) s.1;rw [List.length_take] at hlen;by_cases hlt:k < l.length
  · have HNX:=Lib.hid (rputs_next l s.1 k hlt);obtain ⟨A,hA⟩:∃ A,A = (l.take k).foldl rput s.1:=⟨_,rfl⟩;rw [← hA] at HU HNX hlen hmem hcu ⊢;have hA60:∀ y ∈ A,(eI y).length ≤ 60:=fun y hy => by
     rcases hmem y hy with h | h
     · exact h60 y h
     · exact hl60 y (List.mem_of_mem_take h)
    have hA32:A.length ≤ 32:=by omega
    clear hA hlen hmem;obtain ⟨a', c', e', -,hAl⟩:=HAl.out;cases e';obtain ⟨g,o,hao,hg,h1,h2,h3,h4,h5⟩:=hAl k hlt;subst hao;have x1:=(hbw.cells.1 g _ hg).trans h1;have x4:=(hbw.cells.1 g _ hg).trans h4;have HX1:=Lib.hid h1;have HX2:=Lib.hid h2;have HX3:=Lib.hid h3;have HX4:=Lib.hid h4;have HX5:=Lib.hid h5;have hx60:=hl60 l[k] (List.getElem_mem hlt);clear h1 h2 h3 h4 h5 hAl;obtain ⟨x,hx⟩:∃ x,x = l[k]:=⟨_,rfl⟩;rw [← hx] at HNX x1 x4 HX1 HX2 HX3 HX4 HX5 hx60;clear hx;have HAS:=Lib.hid (HU.out.ens);have EC:=Lib.hid (fun W (hh:Bl wr W) => entryAt_c A _ (eI x) (by omega) W (HAS.out.of_bl hh));have HRP:=Lib.hid (show rput A x = if 0 ≤ plI A (eI x)∧eA x < eA (A.getD (plI A (eI x)).toNat default) then A else rpF x (rpG x (plI A (eI x)) 0 A ([],false)) from rfl);obtain ⟨P,hP⟩:∃ P,P = plI A (eI x):=⟨_,rfl⟩;rw [← hP] at EC HRP;have HPG:=Lib.hid (show 0 ≤ P → ∃ q:Nat,P = q∧q < A.length from fun h => by
     rw [hP] at h;cases hp:plE A (eI x) with
     | none => rw [plI_none hp] at h;exact absurd h (by decide)
     | some q =>
       obtain ⟨hq,-⟩:=plE_some hp;exact ⟨q,by rw [hP,plI_some hp],hq⟩)
    clear hP;go_upto_region 6 with (go_at_call 14; (with_reducible refine (EC.out _ (Bl.refl _)).mono ?_);rintro e w2 ⟨rfl,rfl⟩);by_cases hc:0 ≤ P∧eA x < eA (A.getD P.toNat default)
    · obtain ⟨hc1,hc2⟩:=hc;obtain ⟨q,rfl,hq⟩:=HPG.out hc1;have HE:=Lib.hid (show rput A x = A from by rw [HRP.out,if_pos ⟨hc1,hc2⟩]);rw [Int.toNat_natCast,getD_get A default q hq] at hc2;obtain ⟨a3,c3,e3,-,hA3⟩:=HAS.out;cases e3;obtain ⟨g3,o3,hao3,hg3,-,-,-,y4,-⟩:=hA3 q hq;subst hao3;clear hA3 HPG HRP;go_wp2_with (go_quiet (fail));go_roundw;case rel => exact ⟨k + 1,by omega,by go_num,Lib.hid (by rw [HNX.out,HE.out];exact HU.out.of_bl Bl.z),hbl.trans Bl.z⟩
      case measure => simp [intOf];omega
    · have HE:=Lib.hid (show rput A x = rpF x (rpG x P 0 A ([],false)) from by rw [HRP.out,if_neg hc]);clear HRP;go_cut [46] from 32 to 46 (fun v wx => v = .bool false∧Bl wr wx);case first =>
       by_cases hc1:0 ≤ P
       · obtain ⟨q,rfl,hq⟩:=HPG.out hc1;have hc2:¬ eA x < eA A[q]:=fun h => hc ⟨hc1,by rw [Int.toNat_natCast,getD_get A default q hq];exact h⟩
         obtain ⟨a3,c3,e3,-,hA3⟩:=HAS.out;cases e3;obtain ⟨g3,o3,hao3,hg3,-,-,-,y4,-⟩:=hA3 q hq;subst hao3;clear hA3 HPG hc hc1;go_quiet (fail);go_wp2;go_meet;case rel => exact ⟨rfl,(Bl.refl _).drewN _⟩
       · clear HPG hc;go_quiet (fail);go_wp2;go_meet;case rel => exact ⟨rfl,(Bl.refl _).drewN _⟩
      case rest =>
       obtain ⟨rfl,hbc⟩:=hcut;clear hc x1 x4 HPG;go_wp2;obtain ⟨wI,hwI⟩:∃ wI,wI = wc:=⟨wc,rfl⟩;subst hwI;have HASI:=Lib.hid (HAS.out.of_bl hbc);have hblI:=hbl.trans hbc;have hbwI:=hbw.trans hbc;have hgI:g < wI.heap.size:=Nat.lt_of_lt_of_le hg (Below.size hbwI);have X1:=Lib.hid ((hbwI.cells.1 g _ hg).trans HX1.out);have X2:=Lib.hid ((hbwI.cells.1 g _ hg).trans HX2.out);have X3:=Lib.hid ((hbwI.cells.1 g _ hg).trans HX3.out);have X4:=Lib.hid ((hbwI.cells.1 g _ hg).trans HX4.out);have X5:=Lib.hid ((hbwI.cells.1 g _ hg).trans HX5.out);clear HX1 HX2 HX3 HX4 HX5 HAS;have hlk:k < l.length:=hlt;obtain ⟨w9,hw9⟩:∃ w9,w9 = wr:=⟨wr,rfl⟩;subst hw9;go_loopw [9,10,11] (fun u q j wz => ∃ n:Nat,∃ st:List Ent × Bool,n ≤ A.length∧j = .int .i64 n∧q = .bool st.2∧Hid (EnO wz wI.heap.size u st.1)∧Bl wI wz∧st.1.length ≤ n + 1∧(st.2 = false → st.1.length ≤ n)∧Hid (rpG x P 0 A ([],false) = rpG x P n (A.drop n) st)) (fun _ _ j _ => A.length - (intOf j).toNat);case atStart => exact ⟨0,([],false),Nat.zero_le _,rfl,rfl,Lib.hid (eno_nil _ _),Bl.refl _,by simp,fun _ => Nat.le_refl _,Lib.hid rfl⟩
       case round =>
        obtain ⟨n,⟨sl,sb⟩,hn,rfl,rfl,HV,hbz,hsl,hsf,HG⟩:=hrel;simp only at HV hsl hsf HG ⊢;have hV:=HV.out;obtain ⟨av,cv,rfl,hcv⟩:=own_shp hV;clear hV;have hsz5:wI.heap.size ≤ wr.heap.size:=Below.size hbz;by_cases hln:n < A.length
        · obtain ⟨a3,c3,e3,-,hA3⟩:=HASI.out;cases e3;obtain ⟨g4,o4,hao4,hg4,t1,t2,t3,t4,t5⟩:=hA3 n hln;subst hao4;have hgr:g < wr.heap.size:=Nat.lt_of_lt_of_le hgI hsz5;have hgr4:g4 < wr.heap.size:=Nat.lt_of_lt_of_le hg4 hsz5;have z1:=(hbz.cells.1 g _ hgI).trans X1.out;have z2:=(hbz.cells.1 g _ hgI).trans X2.out;have z3:=(hbz.cells.1 g _ hgI).trans X3.out;have z4:=(hbz.cells.1 g _ hgI).trans X4.out;have z5:=(hbz.cells.1 g _ hgI).trans X5.out;have y1:=(hbz.cells.1 g4 _ hg4).trans t1;have y2:=(hbz.cells.1 g4 _ hg4).trans t2;have y3:=(hbz.cells.1 g4 _ hg4).trans t3;have y4:=(hbz.cells.1 g4 _ hg4).trans t4;have y5:=(hbz.cells.1 g4 _ hg4).trans t5;have T1:=Lib.hid t1;have T2:=Lib.hid t2;have T3:=Lib.hid t3;have T4:=Lib.hid t4;have T5:=Lib.hid t5;have HG2:=Lib.hid (HG.out.trans (rpG_at x P A n hln (sl,sb)));have hy60:=hA60 A[n] (List.getElem_mem hln);clear t1 t2 t3 t4 t5 hA3 HG;obtain ⟨y,hy⟩:∃ y,y = A[n]:=⟨_,rfl⟩;rw [← hy] at y1 y2 y3 y4 y5 T1 T2 T3 T4 T5 HG2 hy60;clear hy;by_cases hnk:(n:Int) = P
          · have hnb:((n:Int) == P) = true:=by simpa using hnk
            have HG3:=Lib.hid (HG2.out.trans (by rw [if_pos hnk]));clear hnk HG2;go_wp2;go_roundw;case rel => exact ⟨n + 1,(sl,sb),by omega,by go_num,rfl,HV,hbz,by simp only;omega,fun e => by have:=hsf e;simp only;omega,HG3⟩
            case measure => simp [intOf];omega
          · have hnb:((n:Int) == P) = false:=by simpa using hnk
            have HG3:=Lib.hid (HG2.out.trans (by rw [if_neg hnk]));clear hnk HG2;cases sb with
            | true =>
              have HG4:=Lib.hid (show rpG x P 0 A ([],false) = rpG x P (n + 1) (A.drop (n + 1)) (sl ++ [y],true) from by rw [HG3.out];rfl);clear HG3 hsf;go_wp2_with (first | (go_quiet (fail)) | (at_builtin;refine wpList_append_own _ rfl _ _ 22 rfl wI.heap.size 36 i0 (.agg #[.string ⟨#[]⟩,.string ⟨#[]⟩,.string ⟨#[]⟩,.int .i64 0,.string ⟨#[]⟩]) 5 72 Tryz.underlying22 hi hz0 hz1 hz2 rfl (by decide) (.slice av (sl.length) cv) (sl.length) (enW sl) rfl ?_ ⟨_,0,none⟩ 1 1 (enQ y) rfl rfl ?_ (enQ_one y) ?_ ?_ ?_ ?_; (exact HV.out.of_bl Bl.z); (exact en_news _ y); (unfold maxLen;omega);omega; (exact Nat.le_trans hsz5 (by simp));intro v5 w5 hown5 hgr5 _;obtain ⟨a5,c5,e5,-⟩:=own_shp hown5;subst e5));go_roundw;case rel => exact ⟨n + 1,(sl ++ [y],true),by omega,by go_num,rfl,Lib.hid (eno_one hown5),bl_app hbz Bl.z hgr5 (fun q hq => (own_bas HV.out hq).1),by simp only [List.length_append,List.length_singleton];omega,(fun e => by cases e),HG4⟩
              case measure => simp [intOf];omega
            | false =>
              have hsf':sl.length ≤ n:=hsf rfl;clear hsf;have HG4:=Lib.hid (show ∀ b,ahB x y = b → rpG x P 0 A ([],false) = rpG x P (n + 1) (A.drop (n + 1)) (if b = true then (sl ++ [x,y],true) else (sl ++ [y],false)) from fun b hb => by rw [HG3.out,hb];simp);have OC0:=fun W => isAheadG_c x y (by omega) (by omega) W
              unfold enV at OC0;obtain ⟨B,hB⟩:∃ B,B = ahB x y:=⟨_,rfl⟩;rw [← hB] at OC0;have HG5:=Lib.hid (HG4.out B hB.symm);have OC:=Lib.hid OC0;clear OC0 hB HG4 HG3;go_upto_region 13 with fail;go_cut [68] from 56 to 68 (fun v wx => v = .bool B∧Bl wr wx);case first =>
               have hmix:Tryz.prog.follows .mixedOrders = true:=by kernel_rfl
               have G0:=fun n os => cell_grown (a:=⟨g,o + k * 5,none⟩) hgr z1 n os
               have G1:=fun n os => cell_grown (a:=⟨g,o + k * 5 + 1,none⟩) hgr z2 n os
               have G2:=fun n os => cell_grown (a:=⟨g,o + k * 5 + 2,none⟩) hgr z3 n os
               have G3:=fun n os => cell_grown (a:=⟨g,o + k * 5 + 3,none⟩) hgr z4 n os
               have G4:=fun n os => cell_grown (a:=⟨g,o + k * 5 + 4,none⟩) hgr z5 n os
               have K0:=fun m os => cell_grown (a:=⟨g4,o4 + n * 5,none⟩) hgr4 y1 m os
               have K1:=fun m os => cell_grown (a:=⟨g4,o4 + n * 5 + 1,none⟩) hgr4 y2 m os
               have K2:=fun m os => cell_grown (a:=⟨g4,o4 + n * 5 + 2,none⟩) hgr4 y3 m os
               have K3:=fun m os => cell_grown (a:=⟨g4,o4 + n * 5 + 3,none⟩) hgr4 y4 m os
               have K4:=fun m os => cell_grown (a:=⟨g4,o4 + n * 5 + 4,none⟩) hgr4 y5 m os
               refine wp_region_quiet_grown hmix (by kernel_rfl) ?_;repeat (quiet_step ((go_at_call 36;exact Calls.grown_of (grown_n (OC.out _)))))
               refine wpQuiet_nil ?_;intro _ hw';obtain ⟨⟨nq2,osq⟩,hw''⟩:=hw';subst hw'';go_wp2;go_meet;case rel => exact ⟨rfl,bl_grow _ _ _⟩
              case rest =>
               obtain ⟨rfl,hbk⟩:=hcut;have hbzc:=hbz.trans hbk;have s1:=(hbzc.cells.1 g _ hgI).trans X1.out;have s2:=(hbzc.cells.1 g _ hgI).trans X2.out;have s3:=(hbzc.cells.1 g _ hgI).trans X3.out;have s4:=(hbzc.cells.1 g _ hgI).trans X4.out;have s5:=(hbzc.cells.1 g _ hgI).trans X5.out;have r1:=(hbzc.cells.1 g4 _ hg4).trans T1.out;have r2:=(hbzc.cells.1 g4 _ hg4).trans T2.out;have r3:=(hbzc.cells.1 g4 _ hg4).trans T3.out;have r4:=(hbzc.cells.1 g4 _ hg4).trans T4.out;have r5:=(hbzc.cells.1 g4 _ hg4).trans T5.out;have HVC:=Lib.hid (HV.out.of_bl hbk);clear z1 z2 z3 z4 z5 y1 y2 y3 y4 y5;cases B with
               | true =>
                 go_wp2_with (first | (have g5:=hown5;at_builtin;refine wpList_append_own _ rfl _ _ 22 rfl wI.heap.size 36 i0 (.agg #[.string ⟨#[]⟩,.string ⟨#[]⟩,.string ⟨#[]⟩,.int .i64 0,.string ⟨#[]⟩]) 5 72 Tryz.underlying22 hi hz0 hz1 hz2 rfl (by decide) (.slice a5 (sl.length + 1) c5) (sl.length + 1) (enW sl ++ enQ x) rfl ?_ ⟨_,0,none⟩ 1 1 (enQ y) rfl rfl ?_ (enQ_one y) ?_ ?_ ?_ ?_; (exact own_bl hown5 Bl.z); (exact en_news _ y); (unfold maxLen;omega);omega; (exact Nat.le_trans (Below.size hb5) (by simp));intro v6 w6 hown6 hgr6 _;obtain ⟨a6,c6,e6,-⟩:=own_shp hown6;subst e6) | (at_builtin;refine wpList_append_own _ rfl _ _ 22 rfl wI.heap.size 36 i0 (.agg #[.string ⟨#[]⟩,.string ⟨#[]⟩,.string ⟨#[]⟩,.int .i64 0,.string ⟨#[]⟩]) 5 72 Tryz.underlying22 hi hz0 hz1 hz2 rfl (by decide) (.slice av (sl.length) cv) (sl.length) (enW sl) rfl ?_ ⟨_,0,none⟩ 1 1 (enQ x) rfl rfl ?_ (enQ_one x) ?_ ?_ ?_ ?_; (exact HVC.out.of_bl Bl.z); (exact en_news _ x); (unfold maxLen;omega);omega; (exact Nat.le_trans (Below.size hbzc) (by simp));intro v5 w5 hown5 hgr5 _;obtain ⟨a5,c5,e5,-⟩:=own_shp hown5;subst e5;have hb5:Bl wI w5:=bl_app hbzc Bl.z hgr5 (fun q hq => (own_bas HVC.out hq).1);have u1:=(hb5.cells.1 g4 _ hg4).trans T1.out;have u2:=(hb5.cells.1 g4 _ hg4).trans T2.out;have u3:=(hb5.cells.1 g4 _ hg4).trans T3.out;have u4:=(hb5.cells.1 g4 _ hg4).trans T4.out;have u5:=(hb5.cells.1 g4 _ hg4).trans T5.out));go_roundw;case rel => exact ⟨n + 1,(sl ++ [x,y],true),by omega,by go_num,rfl,Lib.hid (eno_two hown6),bl_app hb5 Bl.z hgr6 (fun q hq => (own_bas hown5 hq).1),by simp only [List.length_append,List.length_cons,List.length_nil];omega,(fun e => by cases e),HG5⟩
                 case measure => simp [intOf];omega
               | false =>
                 go_wp2_with (first | (at_builtin;refine wpList_append_own _ rfl _ _ 22 rfl wI.heap.size 36 i0 (.agg #[.string ⟨#[]⟩,.string ⟨#[]⟩,.string ⟨#[]⟩,.int .i64 0,.string ⟨#[]⟩]) 5 72 Tryz.underlying22 hi hz0 hz1 hz2 rfl (by decide) (.slice av (sl.length) cv) (sl.length) (enW sl) rfl ?_ ⟨_,0,none⟩ 1 1 (enQ y) rfl rfl ?_ (enQ_one y) ?_ ?_ ?_ ?_; (exact HVC.out.of_bl Bl.z); (exact en_news _ y); (unfold maxLen;omega);omega; (exact Nat.le_trans (Below.size hbzc) (by simp));intro v5 w5 hown5 hgr5 _;obtain ⟨a5,c5,e5,-⟩:=own_shp hown5;subst e5));go_roundw;case rel => exact ⟨n + 1,(sl ++ [y],false),by omega,by go_num,rfl,Lib.hid (eno_one hown5),bl_app hbzc Bl.z hgr5 (fun q hq => (own_bas HVC.out hq).1),by simp only [List.length_append,List.length_singleton];omega,(fun e => by simp only [List.length_append,List.length_singleton];omega),HG5⟩
                 case measure => simp [intOf];omega
        · have HGE:=Lib.hid (show rpG x P 0 A ([],false) = (sl,sb) from by rw [HG.out,List.drop_of_length_le (by omega),rpG]);have hsl33:sl.length ≤ 33:=by omega
          clear HG hsf;cases sb with
          | true =>
            have HFI:=Lib.hid (show (l.take (k + 1)).foldl rput s.1 = sl from by rw [HNX.out,HE.out,HGE.out];rfl);go_wp2;go_roundw;case rel => exact ⟨k + 1,by omega,by go_num,Lib.hid (by rw [HFI.out];exact own_up HV.out (Below.size hblI)),hblI.trans hbz⟩
            case measure => simp [intOf];omega
          | false =>
            have HFI:=Lib.hid (show (l.take (k + 1)).foldl rput s.1 = sl ++ [x] from by rw [HNX.out,HE.out,HGE.out];rfl);have z1:=(hbz.cells.1 g _ hgI).trans X1.out;have z2:=(hbz.cells.1 g _ hgI).trans X2.out;have z3:=(hbz.cells.1 g _ hgI).trans X3.out;have z4:=(hbz.cells.1 g _ hgI).trans X4.out;have z5:=(hbz.cells.1 g _ hgI).trans X5.out;go_wp2_with (first | (at_builtin;refine wpList_append_own _ rfl _ _ 22 rfl wI.heap.size 36 i0 (.agg #[.string ⟨#[]⟩,.string ⟨#[]⟩,.string ⟨#[]⟩,.int .i64 0,.string ⟨#[]⟩]) 5 72 Tryz.underlying22 hi hz0 hz1 hz2 rfl (by decide) (.slice av (sl.length) cv) (sl.length) (enW sl) rfl ?_ ⟨_,0,none⟩ 1 1 (enQ x) rfl rfl ?_ (enQ_one x) ?_ ?_ ?_ ?_; (exact HV.out.of_bl Bl.z); (exact en_news _ x); (unfold maxLen;omega);omega; (exact Nat.le_trans hsz5 (by simp));intro v5 w5 hown5 hgr5 _;obtain ⟨a5,c5,e5,-⟩:=own_shp hown5;subst e5));go_roundw;case rel => exact ⟨k + 1,by omega,by go_num,Lib.hid (by rw [HFI.out];exact own_up (eno_one hown5) (Below.size hblI)),hblI.trans (bl_app hbz Bl.z hgr5 (fun q hq => (own_bas HV.out hq).1))⟩
            case measure => simp [intOf];omega
  · have HFE:=Lib.hid (show (l.take k).foldl rput s.1 = l.foldl rput s.1 from by rw [List.take_of_length_le (by omega)]);obtain ⟨F0,hF0⟩:∃ F0,F0 = l.foldl rput s.1:=⟨_,rfl⟩;rw [HFE.out] at HU hlen hmem hcu ⊢;rw [← hF0] at HU hlen hmem hcu ⊢;have hF60:∀ y ∈ F0,(eI y).length ≤ 60:=fun y hy => by
     rcases hmem y hy with h | h
     · exact h60 y h
     · exact hl60 y (List.mem_of_mem_take h)
    have hF32:F0.length ≤ 32:=by omega
    have HF0:=Lib.hid hF0;clear hF0 hlen hmem HFE;by_cases h20l:20 < F0.length
    · have h20i:(20:Int) < (F0.length:Int):=by omega
      have HFL:=Lib.hid (show (F0.take 20).length = 20 from by rw [List.length_take];omega);have HFO:=Lib.hid (show EnO wr W0.heap.size (.slice au 20 cu) (F0.take 20) from EnO.cut HU.out rfl 20 (by omega));have hcu20:20 ≤ cu:=by omega
      obtain ⟨F,hF⟩:∃ F,F = F0.take 20:=⟨_,rfl⟩;rw [← hF] at HFL HFO;have HFD:=Lib.hid (show rpL s l = F from by unfold rpL;rw [hF,HF0.out]);have hFm:∀ y ∈ F,(eI y).length ≤ 60:=fun y hy => by rw [hF] at hy;exact hF60 y (List.mem_of_mem_take hy)
      have hF20:F.length ≤ 20:=by rw [HFL.out];exact Nat.le_refl _
      clear hF h20l;go_wp2;obtain ⟨wF,hwF⟩:∃ wF,wF = wr:=⟨wr,rfl⟩;subst hwF;have HFS:=Lib.hid (show EnS wF (.slice au (20) cu) F from HFO.out.ens);go_loopw [12,13] (fun m j wz => ∃ k2:Nat,k2 ≤ F.length∧j = .int .i64 k2∧m = .int .i64 (rcn s.1 F k2:Nat)∧Qt wF wz) (fun _ j _ => F.length - (intOf j).toNat);case atStart => exact ⟨0,Nat.zero_le _,rfl,rfl,Qt.refl _⟩
      case round =>
       obtain ⟨k2,hk2,rfl,rfl,hqz⟩:=hrel;have hbF:=hbl.trans hqz.bl;have hbwF:=hb0.trans hbF;obtain ⟨q2l,q2a,q2b⟩:=Q0.of_bl hbF;have hrl:=rcn_le s.1 F k2;by_cases hl2:k2 < F.length
       · have HRN:=Lib.hid (rcn_next s.1 F k2 hl2);have hl2':(k2:Int) < ((20:Nat):Int):=by have:=HFL.out;omega
         have hl2n:k2 < 20:=by have:=HFL.out;omega
         obtain ⟨a3,c3,e3,-,hA3⟩:=HFS.out;injection e3 with e3a _ e3c;subst e3a;subst e3c;obtain ⟨g3,o3,hao3,hg3,t1,t2,t3,t4,t5⟩:=hA3 k2 hl2;subst hao3;have y1:=(hqz.bl.cells.1 g3 _ hg3).trans t1;have y2:=(hqz.bl.cells.1 g3 _ hg3).trans t2;have y3:=(hqz.bl.cells.1 g3 _ hg3).trans t3;have y4:=(hqz.bl.cells.1 g3 _ hg3).trans t4;have y5:=(hqz.bl.cells.1 g3 _ hg3).trans t5;have EC:=Lib.hid (fun W (hh:Bl wr W) => entryAt_c s.1 _ (eI F[k2]) (by omega) W ((HEn.out.of_bl hbwF).of_bl hh));clear t1 t2 t3 t4 t5 hA3;have HRW:=Lib.hid (show rnew s.1 F[k2] = (decide (plI s.1 (eI F[k2]) < 0) || decide (s.1.getD (plI s.1 (eI F[k2])).toNat default ≠ F[k2])) from rfl);cases hpl:plE s.1 (eI F[k2]) with
         | none =>
           rw [plI_none hpl] at EC HRW;have HRT:=Lib.hid (show rnew s.1 F[k2] = true from by rw [HRW.out];rfl);clear hpl;go_wp2_with (go_quiet ((go_at_call 14;first | with_reducible exact quiet_eq (EC.out _ ((Bl.refl _).drewN _)) | with_reducible exact quiet_eq2 (EC.out _ ((Bl.refl _).drewN _)))));go_roundw;case rel => exact ⟨k2 + 1,by omega,by go_num,by rw [HRN.out,HRT.out];go_num,(by repeat (first | exact hqz | refine Qt.drewN ?_ _))⟩
           case measure => simp [intOf];omega
         | some q =>
           obtain ⟨hq,-⟩:=plE_some hpl;rw [plI_some hpl] at EC HRW;rw [Int.toNat_natCast,getD_get s.1 default q hq] at HRW;clear hpl;have hqn:¬ ((q:Int) < 0):=by omega
           obtain ⟨a6,c6,e6,-,hA6⟩:=HEn.out;cases e6;obtain ⟨g6,o6,hao6,hg6,t1,t2,t3,t4,t5⟩:=hA6 q hq;subst hao6;have d1:=(hbwF.cells.1 g6 _ hg6).trans t1;have d2:=(hbwF.cells.1 g6 _ hg6).trans t2;have d3:=(hbwF.cells.1 g6 _ hg6).trans t3;have d4:=(hbwF.cells.1 g6 _ hg6).trans t4;have d5:=(hbwF.cells.1 g6 _ hg6).trans t5;clear t1 t2 t3 t4 t5 hA6;have hnq:=fun W => neq_ent s.1[q] F[k2] W
           unfold enV at hnq;have hmm:Tryz.prog.eqGuardType Tryz.prog.depth 36 = false:=by kernel_rfl
           by_cases he:s.1[q] = F[k2]
           · have hne:decide (s.1[q] ≠ F[k2]) = false:=by simp [he]
             have HRT:=Lib.hid (show rnew s.1 F[k2] = false from by rw [HRW.out,hne];simp);clear he;go_wp2_with (go_quiet ((go_at_call 14;first | with_reducible exact quiet_eq (EC.out _ ((Bl.refl _).drewN _)) | with_reducible exact quiet_eq2 (EC.out _ ((Bl.refl _).drewN _)))));go_roundw;case rel => exact ⟨k2 + 1,by omega,by go_num,by rw [HRN.out,HRT.out];simp,(by repeat (first | exact hqz | refine Qt.drewN ?_ _))⟩
             case measure => simp [intOf];omega
           · have hne:decide (s.1[q] ≠ F[k2]) = true:=by simp [he]
             have HRT:=Lib.hid (show rnew s.1 F[k2] = true from by rw [HRW.out,hne];simp);clear he;go_wp2_with (go_quiet ((go_at_call 14;first | with_reducible exact quiet_eq (EC.out _ ((Bl.refl _).drewN _)) | with_reducible exact quiet_eq2 (EC.out _ ((Bl.refl _).drewN _)))));go_roundw;case rel => exact ⟨k2 + 1,by omega,by go_num,by rw [HRN.out,HRT.out];go_num,(by repeat (first | exact hqz | refine Qt.drewN ?_ _))⟩
             case measure => simp [intOf];omega
       · have hl2':¬ (k2:Int) < ((20:Nat):Int):=by have:=HFL.out;omega
         have hl2n:¬ k2 < 20:=by have:=HFL.out;omega
         have hk2e:k2 = F.length:=by omega
         have HRC:=Lib.hid (show rpN s l = rcn s.1 F k2 from by unfold rpN;rw [HFD.out,hk2e]);clear hk2e;have hq6:=keep_bl hq0 hbF;obtain ⟨lq6,q60,q61⟩:=keep_cells hq6;have g0:=frozen_of_row (j:=0) hq6;have g1:=frozen_of_row (j:=1) hq6;go_wp2;refine bodyPost_ret (results_cell2 rfl _ _ (w.heap.size + 1) 25 #[.slice au (20) cu,.slice ar s.2.length cr] (0,0) _ rfl (set2 hq6 hbwF (by omega)).1 Tryz.underlying25 rfl Tryz.infoShf) rfl ?_;rw [HFD.out,HRC.out];have h2:=set2 (c:=.slice au (20) cu) (d:=.slice ar s.2.length cr) hq6 hbwF (by omega);exact ⟨_,rfl,⟨_,_,rfl,.inr (own_up (eno_setO (HFO.out.of_bl hqz.bl) h2.2.2 (keep_cells hq0).1) (Below.size hb0)),.inl ⟨rfl,rfl⟩⟩,h2.2.1⟩
    · have h20i:¬ (20:Int) < (F0.length:Int):=by omega
      have HFO:=HU;have HFT:=Lib.hid (show F0.take 20 = F0 from List.take_of_length_le (by omega));have HFL:=Lib.hid (rfl:F0.length = F0.length);obtain ⟨F,hF⟩:∃ F,F = F0:=⟨_,rfl⟩;have hFm:∀ y ∈ F,(eI y).length ≤ 60:=fun y hy => by rw [hF] at hy;exact hF60 y hy
      have hF20:F.length ≤ 20:=by rw [hF];omega
      subst hF;have HFD:=Lib.hid (show rpL s l = F from by unfold rpL;rw [← HF0.out];exact HFT.out);go_wp2;obtain ⟨wF,hwF⟩:∃ wF,wF = wr:=⟨wr,rfl⟩;subst hwF;have HFS:=Lib.hid (show EnS wF (.slice au (F.length) cu) F from HFO.out.ens);go_loopw [12,13] (fun m j wz => ∃ k2:Nat,k2 ≤ F.length∧j = .int .i64 k2∧m = .int .i64 (rcn s.1 F k2:Nat)∧Qt wF wz) (fun _ j _ => F.length - (intOf j).toNat);case atStart => exact ⟨0,Nat.zero_le _,rfl,rfl,Qt.refl _⟩
      case round =>
       obtain ⟨k2,hk2,rfl,rfl,hqz⟩:=hrel;have hbF:=hbl.trans hqz.bl;have hbwF:=hb0.trans hbF;obtain ⟨q2l,q2a,q2b⟩:=Q0.of_bl hbF;have hrl:=rcn_le s.1 F k2;by_cases hl2:k2 < F.length
       · have HRN:=Lib.hid (rcn_next s.1 F k2 hl2);have hl2':(k2:Int) < ((F.length:Nat):Int):=by have:=HFL.out;omega
         have hl2n:k2 < F.length:=by have:=HFL.out;omega
         obtain ⟨a3,c3,e3,-,hA3⟩:=HFS.out;injection e3 with e3a _ e3c;subst e3a;subst e3c;obtain ⟨g3,o3,hao3,hg3,t1,t2,t3,t4,t5⟩:=hA3 k2 hl2;subst hao3;have y1:=(hqz.bl.cells.1 g3 _ hg3).trans t1;have y2:=(hqz.bl.cells.1 g3 _ hg3).trans t2;have y3:=(hqz.bl.cells.1 g3 _ hg3).trans t3;have y4:=(hqz.bl.cells.1 g3 _ hg3).trans t4;have y5:=(hqz.bl.cells.1 g3 _ hg3).trans t5;have EC:=Lib.hid (fun W (hh:Bl wr W) => entryAt_c s.1 _ (eI F[k2]) (by omega) W ((HEn.out.of_bl hbwF).of_bl hh));clear t1 t2 t3 t4 t5 hA3;have HRW:=Lib.hid (show rnew s.1 F[k2] = (decide (plI s.1 (eI F[k2]) < 0) || decide (s.1.getD (plI s.1 (eI F[k2])).toNat default ≠ F[k2])) from rfl);cases hpl:plE s.1 (eI F[k2]) with
         | none =>
           rw [plI_none hpl] at EC HRW;have HRT:=Lib.hid (show rnew s.1 F[k2] = true from by rw [HRW.out];rfl);clear hpl;go_wp2_with (go_quiet ((go_at_call 14;first | with_reducible exact quiet_eq (EC.out _ ((Bl.refl _).drewN _)) | with_reducible exact quiet_eq2 (EC.out _ ((Bl.refl _).drewN _)))));go_roundw;case rel => exact ⟨k2 + 1,by omega,by go_num,by rw [HRN.out,HRT.out];go_num,(by repeat (first | exact hqz | refine Qt.drewN ?_ _))⟩
           case measure => simp [intOf];omega
         | some q =>
           obtain ⟨hq,-⟩:=plE_some hpl;rw [plI_some hpl] at EC HRW;rw [Int.toNat_natCast,getD_get s.1 default q hq] at HRW;clear hpl;have hqn:¬ ((q:Int) < 0):=by omega
           obtain ⟨a6,c6,e6,-,hA6⟩:=HEn.out;cases e6;obtain ⟨g6,o6,hao6,hg6,t1,t2,t3,t4,t5⟩:=hA6 q hq;subst hao6;have d1:=(hbwF.cells.1 g6 _ hg6).trans t1;have d2:=(hbwF.cells.1 g6 _ hg6).trans t2;have d3:=(hbwF.cells.1 g6 _ hg6).trans t3;have d4:=(hbwF.cells.1 g6 _ hg6).trans t4;have d5:=(hbwF.cells.1 g6 _ hg6).trans t5;clear t1 t2 t3 t4 t5 hA6;have hnq:=fun W => neq_ent s.1[q] F[k2] W
           unfold enV at hnq;have hmm:Tryz.prog.eqGuardType Tryz.prog.depth 36 = false:=by kernel_rfl
           by_cases he:s.1[q] = F[k2]
           · have hne:decide (s.1[q] ≠ F[k2]) = false:=by simp [he]
             have HRT:=Lib.hid (show rnew s.1 F[k2] = false from by rw [HRW.out,hne];simp);clear he;go_wp2_with (go_quiet ((go_at_call 14;first | with_reducible exact quiet_eq (EC.out _ ((Bl.refl _).drewN _)) | with_reducible exact quiet_eq2 (EC.out _ ((Bl.refl _).drewN _)))));go_roundw;case rel => exact ⟨k2 + 1,by omega,by go_num,by rw [HRN.out,HRT.out];simp,(by repeat (first | exact hqz | refine Qt.drewN ?_ _))⟩
             case measure => simp [intOf];omega
           · have hne:decide (s.1[q] ≠ F[k2]) = true:=by simp [he]
             have HRT:=Lib.hid (show rnew s.1 F[k2] = true from by rw [HRW.out,hne];simp);clear he;go_wp2_with (go_quiet ((go_at_call 14;first | with_reducible exact quiet_eq (EC.out _ ((Bl.refl _).drewN _)) | with_reducible exact quiet_eq2 (EC.out _ ((Bl.refl _).drewN _)))));go_roundw;case rel => exact ⟨k2 + 1,by omega,by go_num,by rw [HRN.out,HRT.out];go_num,(by repeat (first | exact hqz | refine Qt.drewN ?_ _))⟩
             case measure => simp [intOf];omega
       · have hl2':¬ (k2:Int) < ((F.length:Nat):Int):=by have:=HFL.out;omega
         have hl2n:¬ k2 < F.length:=by have:=HFL.out;omega
         have hk2e:k2 = F.length:=by omega
         have HRC:=Lib.hid (show rpN s l = rcn s.1 F k2 from by unfold rpN;rw [HFD.out,hk2e]);clear hk2e;have hq6:=keep_bl hq0 hbF;obtain ⟨lq6,q60,q61⟩:=keep_cells hq6;have g0:=frozen_of_row (j:=0) hq6;have g1:=frozen_of_row (j:=1) hq6;go_wp2;refine bodyPost_ret (results_cell2 rfl _ _ (w.heap.size + 1) 25 #[.slice au (F.length) cu,.slice ar s.2.length cr] (0,0) _ rfl (set2 hq6 hbwF (by omega)).1 Tryz.underlying25 rfl Tryz.infoShf) rfl ?_;rw [HFD.out,HRC.out];have h2:=set2 (c:=.slice au (F.length) cu) (d:=.slice ar s.2.length cr) hq6 hbwF (by omega);exact ⟨_,rfl,⟨_,_,rfl,.inr (own_up (eno_setO (HFO.out.of_bl hqz.bl) h2.2.2 (keep_cells hq0).1) (Below.size hb0)),.inl ⟨rfl,rfl⟩⟩,h2.2.1⟩
end Go.Proofs.YthnpljkekhieiaaGreatDoor

/- Shelves: the reference: UnreadOf, MarkOf. -/
import Derived.Test.YthnpljkekhieiaaGreatDoorSrE
import Derived.Test.YthnpljkekhieiaaGreatDoorGrpW
set_option maxRecDepth 100000
set_option maxHeartbeats 8000000
namespace Go.Proofs.YthnpljkekhieiaaGreatDoor
open Go.RowKit
theorem bl_app {W0 wr wq w5:World} {row:Option Nat} (h:Bl W0 wr) (hq:Bl wr wq) (hg:wq.grownBy w5 row) (hr:∀ k,row = some k → W0.heap.size ≤ k):Bl W0 w5 :=
 Below.trans (h.trans hq) (gr_below hg (Below.size (h.trans hq)) hr)
theorem en_news (w:World) (x:Ent):∀ j u,(enQ x)[j]? = some u → (w.alloc (.cells #[.string ⟨(eI x).toArray⟩,.string ⟨(eT x).toArray⟩,.string ⟨(eL x).toArray⟩,.int .i64 (eA x),.string ⟨(eH x).toArray⟩] 36)).cell? ((⟨w.heap.size,0,none⟩:Addr).add j) = some u:=fun j u hj => by
 rw [addr_at,cell_of_row (heap_alloc_new w _)];simpa [enQ] using hj
theorem eno_nil (w:World) (base:Nat):EnO w base (.slice none 0 0) []:=⟨rfl,.inl ⟨rfl,rfl⟩⟩
theorem eno_one {w:World} {base:Nat} {v:Value} {l:List Ent} {x:Ent} (h:w.ownsRow base 36 5 v (l.length + 1) (enW l ++ enQ x)):EnO w base v (l ++ [x]):=by
 unfold EnO;rw [enW_app,List.length_append];simpa [enW] using h
theorem sto_one {w:World} {base:Nat} {v:Value} {l:List Nm} {x:Nm} (h:w.ownsRow base 9 1 v (l.length + 1) (strV l ++ [.string ⟨x.toArray⟩])):StO w base v (l ++ [x]):=by
 unfold StO;rw [strV_app,List.length_append];simpa [strV] using h
theorem sto_two {w:World} {base:Nat} {v:Value} {l:List Nm} {x y:Nm} (h:w.ownsRow base 9 1 v (l.length + 1 + 1) (strV l ++ [.string ⟨x.toArray⟩] ++ [.string ⟨y.toArray⟩])):StO w base v (l ++ [x,y]):=by
 unfold StO;rw [strV_app,List.length_append];simpa [strV,List.append_assoc] using h
theorem sto_setO {W W':World} {base q:Nat} {v:Value} {l:List Nm} (h:StO W base v l) (hg:W.grownBy W' (some q)) (hq:q < base):StO W' base v l :=
 own_same h (fun k hk => hg.block k (own_bas h hk).2 (fun e => by have:=(own_bas h hk).1;cases e;omega))
theorem eno_setO {W W':World} {base q:Nat} {v:Value} {l:List Ent} (h:EnO W base v l) (hg:W.grownBy W' (some q)) (hq:q < base):EnO W' base v l :=
 own_same h (fun k hk => hg.block k (own_bas h hk).2 (fun e => by have:=(own_bas h hk).1;cases e;omega))
def ShK (w:World) (base:Nat) (v ve vr:Value) (s S:Shf):Prop:=∃ x y,v = .agg #[x,y]∧(x = ve∧S.1 = s.1 ∨ EnO w base x S.1)∧(y = vr∧S.2 = s.2 ∨ StO w base y S.2)
theorem ShK.shs {w:World} {base:Nat} {v ve vr:Value} {s S:Shf} (h:ShK w base v ve vr s S) (hs:ShS w (.agg #[ve,vr]) s):ShS w v S:=by
 obtain ⟨x,y,rfl,hx,hy⟩:=h;obtain ⟨ve', vr', e,h1,h2⟩:=hs;cases e;refine ⟨x,y,rfl,?_,?_⟩
 · rcases hx with ⟨rfl,e⟩ | h
   · rw [e];exact h1
   · exact EnO.ens h
 · rcases hy with ⟨rfl,e⟩ | h
   · rw [e];exact h2
   · exact StO.sts h
theorem ShK.of_bl {w w':World} {base:Nat} {v ve vr:Value} {s S:Shf} (h:ShK w base v ve vr s S) (hb:Bl w w'):ShK w' base v ve vr s S:=by
 obtain ⟨x,y,e,hx,hy⟩:=h;exact ⟨x,y,e,hx.imp id (fun h => EnO.of_bl h hb),hy.imp id (fun h => StO.of_bl h hb)⟩
theorem ShK.set {w w':World} {base q:Nat} {v ve vr:Value} {s S:Shf} (h:ShK w base v ve vr s S) (hg:w.grownBy w' (some q)) (hq:q < base):ShK w' base v ve vr s S:=by
 obtain ⟨x,y,e,hx,hy⟩:=h;exact ⟨x,y,e,hx.imp id (fun h => eno_setO h hg hq),hy.imp id (fun h => sto_setO h hg hq)⟩
theorem ShK.nil (w:World) (base:Nat) (ve vr:Value) (s:Shf):ShK w base (.agg #[.slice none 0 0,.slice none 0 0]) ve vr s ([],[]) :=
 ⟨_,_,rfl,.inr ⟨rfl,.inl ⟨rfl,rfl⟩⟩,.inr ⟨rfl,.inl ⟨rfl,rfl⟩⟩⟩
def unR (s:Shf) (k:Nat):List Ent:=(s.1.take k).filter fun x => !s.2.contains (eI x)
theorem unR_next (s:Shf) (k:Nat) (h:k < s.1.length):unR s (k + 1) = unR s k ++ if s.2.contains (eI s.1[k]) = true then [] else [s.1[k]]:=by
 unfold unR;rw [take_snoc _ k h,List.filter_append];congr 1;cases hc:s.2.contains (eI s.1[k]) <;> simp only [List.filter_cons,List.filter_nil,hc] <;> rfl
theorem unR_len (s:Shf) (k:Nat):(unR s k).length ≤ k:=by
 unfold unR;exact Nat.le_trans (List.length_filter_le _ _) (by rw [List.length_take];omega)
theorem unR_all (s:Shf) (h:s.2.Pairwise ltT):unR s s.1.length = drL s:=by
 unfold unR drL;rw [List.take_length];refine List.filter_congr fun x _ => ?_
 congr 1;rw [Bool.eq_iff_iff,List.contains_iff_mem,fnT_iff h]
theorem unreadOf_c (s:Shf) (v:Value) (h20:s.1.length ≤ 20) (h40:s.2.length ≤ 40) (w:World) (hS:ShS w v s) :
 Calls Tryz.prog 19 #[v] w fun e w' => ∃ v', e = .returned v' ∧ EnO w' w.heap.size v' (unR s s.1.length)∧Bl w w':=by
 obtain ⟨i0,hi,hz0,hz1,hz2⟩:=info_parts Tryz.infoEnt;obtain ⟨ve,vr,rfl,hEn,hRd⟩:=hS;have HEn:=Lib.hid hEn;have HRd:=Lib.hid hRd;obtain ⟨ao,cap,rfl,hcap,-⟩:=hEn;obtain ⟨ar,cr,rfl,hcr,-⟩:=hRd;obtain ⟨W0,hW0⟩:∃ W0,W0 = w.alloc (.cells #[.slice ao s.1.length cap,.slice ar s.2.length cr] 25):=⟨_,rfl⟩;have Q0:B2 W0 w.heap.size (.slice ao s.1.length cap) (.slice ar s.2.length cr):=by rw [hW0];exact B2.new w _ _ _
 have hb0:Bl w W0:=by rw [hW0];exact (Bl.refl _).alloc _
 go_enter Tryz.func19,Tryz.ntmps19;go_wp2;go_loopw [3,4] (fun u i wr => ∃ k:Nat,k ≤ s.1.length∧i = .int .i64 k∧Hid (EnO wr W0.heap.size u (unR s k))∧Bl W0 wr) (fun _ i _ => s.1.length - (intOf i).toNat);case atStart => exact ⟨0,Nat.zero_le _,rfl,Lib.hid (eno_nil _ _),by rw [hW0];exact Bl.refl _⟩
 case round =>
  obtain ⟨k,hk,rfl,HU,hbl⟩:=hrel;obtain ⟨q0l,q0a,q0b⟩:=Q0.of_bl hbl;have hU:=HU.out;obtain ⟨au,cu,rfl,hcu⟩:=own_shp hU;clear hU;by_cases hlt:k < s.1.length
  · obtain ⟨a', c', e', -,hA⟩:=HEn.out;cases e';obtain ⟨g,o,hao,hg,h1,h2,h3,h4,h5⟩:=hA k hlt;subst hao;have hbw:=hb0.trans hbl;have x1:=(hbw.cells.1 g _ hg).trans h1;have x2:=(hbw.cells.1 g _ hg).trans h2;have x3:=(hbw.cells.1 g _ hg).trans h3;have x4:=(hbw.cells.1 g _ hg).trans h4;have x5:=(hbw.cells.1 g _ hg).trans h5;have IW:=Lib.hid (fun W (hh:Bl wr W) => inWords_c s.2 _ (eI s.1[k]) (by omega) W ((HRd.out.of_bl hbw).of_bl hh));have HN:=Lib.hid (unR_next s k hlt);have hul:=unR_len s k;clear h1 h2 h3 h4 h5 hA;cases hp:s.2.contains (eI s.1[k])
    · rw [hp] at IW HN;clear hp;go_wp2_with (first | (go_quiet ((go_at_call 42;first | with_reducible exact quiet_eq (IW.out _ ((Bl.refl _).drewN _)) | with_reducible exact quiet_eq2 (IW.out _ ((Bl.refl _).drewN _))))) | (at_builtin;refine wpList_append_own _ rfl _ _ 22 rfl W0.heap.size 36 i0 (.agg #[.string ⟨#[]⟩,.string ⟨#[]⟩,.string ⟨#[]⟩,.int .i64 0,.string ⟨#[]⟩]) 5 72 Tryz.underlying22 hi hz0 hz1 hz2 rfl (by decide) (.slice au ((unR s k).length) cu) ((unR s k).length) (enW (unR s k)) rfl ?_ ⟨_,0,none⟩ 1 1 (enQ s.1[k]) rfl rfl ?_ (enQ_one s.1[k]) ?_ ?_ ?_ ?_; (exact HU.out.of_bl Bl.z); (exact en_news _ s.1[k]); (unfold maxLen;omega);omega; (exact Nat.le_trans (Below.size hbl) (by simp));intro v5 w5 hown5 hgr5 _;obtain ⟨a5,c5,e5,-⟩:=own_shp hown5;subst e5));go_roundw;case rel => exact ⟨k + 1,by omega,by go_num,Lib.hid (by rw [HN.out];exact eno_one hown5),bl_app hbl Bl.z hgr5 (fun q hq => (own_bas HU.out hq).1)⟩
      case measure => simp [intOf];omega
    · rw [hp] at IW HN;clear hp;go_wp2_with (go_quiet ((go_at_call 42;first | with_reducible exact quiet_eq (IW.out _ ((Bl.refl _).drewN _)) | with_reducible exact quiet_eq2 (IW.out _ ((Bl.refl _).drewN _)))));go_roundw;case rel => exact ⟨k + 1,by omega,by go_num,Lib.hid (by rw [HN.out,if_pos rfl,List.append_nil];exact HU.out.of_bl Bl.z),hbl.trans Bl.z⟩
      case measure => simp [intOf];omega
  · obtain rfl:k = s.1.length:=by omega
    go_wp2;go_ret;exact ⟨_,rfl,own_up HU.out (Below.size hb0),hb0.trans hbl⟩
theorem rm_at (i:Nm) (b:Bool) (l:List Nm) (k:Nat) (h:k < l.length) (st:List Nm × Bool):rmG i b (l.drop k) st =
 if l[k] = i then (if b then none else rmG i b (l.drop (k + 1)) st) else rmG i b (l.drop (k + 1)) (if st.2 = false∧Op.bytesLess i l[k] = true then (st.1 ++ [i,l[k]],true) else (st.1 ++ [l[k]],st.2)):=by
 rw [List.drop_eq_getElem_cons h,rmG]
theorem plE_len {l:List Ent} {i:Nm} {p:Nat} (h:plE l i = some p) (h60:∀ x ∈ l,(eI x).length ≤ 60):i.length ≤ 60:=by
 obtain ⟨hk,he⟩:=plE_some h;rw [← he];exact h60 _ (List.getElem_mem hk)
def rmS (s:Shf) (i:Nm) (b:Bool):Shf:=if (rmark s i b).1 = 0 then (s.1,(rmark s i b).2) else ([],[])
theorem markOf_c (s:Shf) (ve vr:Value) (i:Nm) (b:Bool) (h20:s.1.length ≤ 20) (h40:s.2.length ≤ 40) (h60:∀ x ∈ s.1,(eI x).length ≤ 60) (hr60:∀ y ∈ s.2,y.length ≤ 60) (w:World) (hS:ShS w (.agg #[ve,vr]) s) :
 Calls Tryz.prog 18 #[.agg #[ve,vr],.string ⟨i.toArray⟩,.bool b] w fun e w' => ∃ sv,e = .returned (.tuple #[sv,.int .i64 (rmark s i b).1])∧ShK w' w.heap.size sv ve vr s (rmS s i b)∧Bl w w':=by
 obtain ⟨i0,hi,hz0,hz1,hz2⟩:=info_parts Tryz.infoStr;obtain ⟨ve', vr', e0,hEn,hRd⟩:=hS;cases e0;have HEn:=Lib.hid hEn;have HRd:=Lib.hid hRd;obtain ⟨ao,cap,rfl,hcap,-⟩:=hEn;obtain ⟨ar,cr,rfl,hcr,-⟩:=hRd;obtain ⟨W0,hW0⟩:∃ W0,W0 = (w.alloc (.cells #[.slice ao s.1.length cap,.slice ar s.2.length cr] 25)).alloc (.cells #[.slice none 0 0,.slice none 0 0] 25):=⟨_,rfl⟩;have hq0:W0.heap[w.heap.size + 1]? = some (.cells #[.slice none 0 0,.slice none 0 0] 25):=by
  rw [hW0];have:=heap_alloc_new (w.alloc (.cells #[.slice ao s.1.length cap,.slice ar s.2.length cr] 25)) (.cells #[.slice none 0 0,.slice none 0 0] 25);simpa using this
 have Q0:B2 W0 w.heap.size (.slice ao s.1.length cap) (.slice ar s.2.length cr):=by rw [hW0];exact (B2.new w _ _ _).of_bl ((Bl.refl _).alloc _)
 have hb0:Bl w W0:=by rw [hW0];exact ((Bl.refl _).alloc _).alloc _
 have EC:=Lib.hid (fun W (hh:Bl w W) => entryAt_c s.1 _ i (by omega) W (HEn.out.of_bl hh));have HW0:=Lib.hid hW0;clear hW0;cases hp:plE s.1 i with
 | none =>
   rw [plI_none hp] at EC;have HR1:=Lib.hid (show (rmark s i b).1 = 5 from by unfold rmark;rw [if_pos hp]);have HR2:=Lib.hid (show rmS s i b = ([],[]) from by unfold rmS;rw [HR1.out];rfl);obtain ⟨lq,q0,q1⟩:=keep_cells hq0;have f0:=frozen_of_row (j:=0) hq0;have f1:=frozen_of_row (j:=1) hq0;obtain ⟨l0,p0,p1⟩:=Q0;clear hp;go_enter Tryz.func18,Tryz.ntmps18;go_wp2_with (go_at_call 14; (with_reducible refine (EC.out _ Bl.z).mono ?_);rintro e w1 ⟨rfl,hw1⟩;rw [← HW0.out] at hw1;subst hw1);refine bodyPost_ret (results_cell2 rfl _ _ (w.heap.size + 1) 25 #[.slice none 0 0,.slice none 0 0] (0,0) _ rfl (set2 hq0 hb0 (by omega)).1 Tryz.underlying25 rfl Tryz.infoShf) rfl ?_;exact ⟨_,by first | (rw [HR1.out];done) | (rw [HR1.out];rfl),by rw [HR2.out];exact ShK.nil _ _ _ _ _,(set2 hq0 hb0 (by omega)).2.1⟩
 | some p =>
   have hi60:=plE_len hp h60;have HRM:=Lib.hid (show rmark s i b = match rmG i b s.2 ([],!b) with | none => (0,s.2) | some st => if 40 < (rmF i st).length then (2,[]) else (0,rmF i st) from by unfold rmark;rw [if_neg (by rw [hp];simp)];cases rmG i b s.2 ([],!b) <;> rfl);rw [plI_some hp] at EC;have hp0:¬ ((p:Int) < 0):=by omega
   have HR60:=Lib.hid hr60;clear hp h60 hr60;go_enter Tryz.func18,Tryz.ntmps18;go_wp2_with (go_at_call 14; (with_reducible refine (EC.out _ Bl.z).mono ?_);rintro e w1 ⟨rfl,hw1⟩;rw [← HW0.out] at hw1;subst hw1);go_loopw [8,9,10] (fun u q j wr => ∃ k:Nat,∃ st:List Nm × Bool,k ≤ s.2.length∧j = .int .i64 k∧q = .bool st.2∧Hid (StO wr W0.heap.size u st.1)∧Bl W0 wr∧st.1.length ≤ k + 1∧(st.2 = false → st.1.length ≤ k)∧Hid (rmG i b s.2 ([],!b) = rmG i b (s.2.drop k) st)) (fun _ _ j _ => s.2.length - (intOf j).toNat);case atStart => exact ⟨0,([],!b),Nat.zero_le _,rfl,rfl,Lib.hid (sto_nil _ _),by rw [HW0.out];exact Bl.refl _,by simp,fun _ => Nat.zero_le _,Lib.hid rfl⟩
   case round =>
    obtain ⟨k,⟨sl,sb⟩,hk,rfl,rfl,HU,hbl,hsl,hsf,HP⟩:=hrel;simp only at HU hsl hsf HP ⊢;obtain ⟨q0l,q0a,q0b⟩:=Q0.of_bl hbl;have hq1:=keep_bl hq0 hbl;have hU:=HU.out;obtain ⟨au,cu,rfl,hcu⟩:=own_shp hU;clear hU;have hbw:=hb0.trans hbl;by_cases hlt:k < s.2.length
    · obtain ⟨a', c', e', -,hA⟩:=HRd.out;cases e';obtain ⟨g,o,hao,hg,h1⟩:=hA k hlt;subst hao;have x1:=(hbw.cells.1 g _ hg).trans h1;have HX0:=Lib.hid h1;have HP2:=Lib.hid (HP.out.trans (rm_at i b s.2 k hlt (sl,sb)));have hy60:=HR60.out s.2[k] (List.getElem_mem hlt);clear h1 hA HP;by_cases he:s.2[k] = i
      · have hbe:(s.2[k] == i) = true:=by simp [he]
        have HE:=Lib.hid he;clear he;cases b with
        | true =>
          have HR:=Lib.hid (show rmark s i true = (0,s.2) from by rw [HRM.out,HP2.out,if_pos HE.out,if_pos rfl]);have HR2:=Lib.hid (show rmS s i true = s from by unfold rmS;rw [HR.out];rfl);obtain ⟨lq,q0,q1⟩:=keep_cells hq1;have f0:=frozen_of_row (j:=0) hq1;have f1:=frozen_of_row (j:=1) hq1;go_wp2;refine bodyPost_ret (results_cell2 rfl _ _ (w.heap.size + 1) 25 #[.slice ao s.1.length cap,.slice _ s.2.length cr] (0,0) _ rfl (set2 hq1 hbw (by omega)).1 Tryz.underlying25 rfl Tryz.infoShf) rfl ?_;exact ⟨_,by first | (rw [HR.out];done) | (rw [HR.out];rfl),by rw [HR2.out];exact ⟨_,_,rfl,.inl ⟨rfl,rfl⟩,.inl ⟨rfl,rfl⟩⟩,(set2 hq1 hbw (by omega)).2.1⟩
        | false =>
          have HP3:=Lib.hid (HP2.out.trans (by rw [if_pos HE.out];rfl:_ = rmG i false (s.2.drop (k + 1)) (sl,sb)));go_wp2;go_roundw;case rel => exact ⟨k + 1,(sl,sb),by omega,by go_num,rfl,HU,hbl,by simp only;omega,fun e => by have:=hsf e;simp only;omega,HP3⟩
          case measure => simp [intOf];omega
      · have hbe:(s.2[k] == i) = false:=by simpa using he
        have HP3:=Lib.hid (HP2.out.trans (if_neg he));clear he HP2;have TC:=Lib.hid (fun W => textLess_c i s.2[k] (by omega) (by omega) W);cases sb with
        | true =>
          have HP4:=Lib.hid (show rmG i b s.2 ([],!b) = rmG i b (s.2.drop (k + 1)) (sl ++ [s.2[k]],true) from by rw [HP3.out];rfl);clear HP3;go_wp2_with (first | (at_builtin;refine wpList_append_own _ rfl _ _ 23 rfl W0.heap.size 9 i0 (.string ⟨#[]⟩) 1 16 Tryz.underlying23 hi hz0 hz1 hz2 rfl (by decide) (.slice au (sl.length) cu) (sl.length) (strV sl) rfl ?_ ⟨_,0,none⟩ 1 1 ([.string ⟨s.2[k].toArray⟩]:List Value) rfl rfl ?_ (strQ_one s.2[k]) ?_ ?_ ?_ ?_; (exact HU.out.of_bl Bl.z); (exact un_news _ _); (unfold maxLen;omega);omega; (exact Nat.le_trans (Below.size hbl) (by simp));intro v5 w5 hown5 hgr5 _;obtain ⟨a5,c5,e5,-⟩:=own_shp hown5;subst e5));go_roundw;case rel => exact ⟨k + 1,(sl ++ [s.2[k]],true),by omega,by go_num,rfl,Lib.hid (sto_one hown5),bl_app hbl Bl.z hgr5 (fun q hq => (own_bas HU.out hq).1),by simp only [List.length_append,List.length_singleton];omega,(fun e => by first | (simp only [List.length_append,List.length_singleton];omega) | cases e),HP4⟩
          case measure => simp [intOf];omega
        | false =>
          have hsf':sl.length ≤ k:=hsf rfl;clear hsf;cases hless:Op.bytesLess i s.2[k] with
          | false =>
            rw [hless] at TC;have HP4:=Lib.hid (show rmG i b s.2 ([],!b) = rmG i b (s.2.drop (k + 1)) (sl ++ [s.2[k]],false) from by rw [HP3.out,if_neg (by rw [hless];simp)]);clear HP3 hless;go_wp2_with (first | (go_at_call 37; (with_reducible refine (TC.out _).mono ?_);rintro e w4 ⟨rfl,n4,rfl⟩) | (at_builtin;refine wpList_append_own _ rfl _ _ 23 rfl W0.heap.size 9 i0 (.string ⟨#[]⟩) 1 16 Tryz.underlying23 hi hz0 hz1 hz2 rfl (by decide) (.slice au (sl.length) cu) (sl.length) (strV sl) rfl ?_ ⟨_,0,none⟩ 1 1 ([.string ⟨s.2[k].toArray⟩]:List Value) rfl rfl ?_ (strQ_one s.2[k]) ?_ ?_ ?_ ?_; (exact HU.out.of_bl Bl.z); (exact un_news _ _); (unfold maxLen;omega);omega; (exact Nat.le_trans (Below.size hbl) (by simp));intro v5 w5 hown5 hgr5 _;obtain ⟨a5,c5,e5,-⟩:=own_shp hown5;subst e5));go_roundw;case rel => exact ⟨k + 1,(sl ++ [s.2[k]],false),by omega,by go_num,rfl,Lib.hid (sto_one hown5),bl_app hbl Bl.z hgr5 (fun q hq => (own_bas HU.out hq).1),by simp only [List.length_append,List.length_singleton];omega,(fun e => by first | (simp only [List.length_append,List.length_singleton];omega) | cases e),HP4⟩
            case measure => simp [intOf];omega
          | true =>
            rw [hless] at TC;have HP4:=Lib.hid (show rmG i b s.2 ([],!b) = rmG i b (s.2.drop (k + 1)) (sl ++ [i,s.2[k]],true) from by rw [HP3.out,if_pos ⟨rfl,hless⟩]);clear HP3 hless;go_wp2_with (first | (go_at_call 37; (with_reducible refine (TC.out _).mono ?_);rintro e w4 ⟨rfl,n4,rfl⟩) | (have g5:=hown5;at_builtin;refine wpList_append_own _ rfl _ _ 23 rfl W0.heap.size 9 i0 (.string ⟨#[]⟩) 1 16 Tryz.underlying23 hi hz0 hz1 hz2 rfl (by decide) (.slice a5 (sl.length + 1) c5) (sl.length + 1) (strV sl ++ [.string ⟨i.toArray⟩]) rfl ?_ ⟨_,0,none⟩ 1 1 ([.string ⟨s.2[k].toArray⟩]:List Value) rfl rfl ?_ (strQ_one s.2[k]) ?_ ?_ ?_ ?_; (exact own_bl hown5 Bl.z); (exact un_news _ _); (unfold maxLen;omega);omega; (exact Nat.le_trans (Below.size hb5) (by simp));intro v6 w6 hown6 hgr6 _;obtain ⟨a6,c6,e6,-⟩:=own_shp hown6;subst e6) | (at_builtin;refine wpList_append_own _ rfl _ _ 23 rfl W0.heap.size 9 i0 (.string ⟨#[]⟩) 1 16 Tryz.underlying23 hi hz0 hz1 hz2 rfl (by decide) (.slice au (sl.length) cu) (sl.length) (strV sl) rfl ?_ ⟨_,0,none⟩ 1 1 ([.string ⟨i.toArray⟩]:List Value) rfl rfl ?_ (strQ_one i) ?_ ?_ ?_ ?_; (exact HU.out.of_bl Bl.z); (exact un_news _ _); (unfold maxLen;omega);omega; (exact Nat.le_trans (Below.size hbl) (by simp));intro v5 w5 hown5 hgr5 _;obtain ⟨a5,c5,e5,-⟩:=own_shp hown5;subst e5;have hb5:Bl W0 w5:=bl_app hbl Bl.z hgr5 (fun q hq => (own_bas HU.out hq).1);obtain ⟨q5l,q5a,q5b⟩:=Q0.of_bl hb5;have x5:=((hb0.trans hb5).cells.1 g _ hg).trans (HX0.out)));go_roundw;case rel => exact ⟨k + 1,(sl ++ [i,s.2[k]],true),by omega,by go_num,rfl,Lib.hid (sto_two hown6),bl_app (bl_app hbl Bl.z hgr5 (fun q hq => (own_bas HU.out hq).1)) Bl.z hgr6 (fun q hq => (own_bas hown5 hq).1),by simp only [List.length_append,List.length_cons,List.length_nil];omega,(fun e => by cases e),HP4⟩
            case measure => simp [intOf];omega
    · have HG:=Lib.hid (show rmG i b s.2 ([],!b) = some (sl,sb) from by rw [HP.out,List.drop_of_length_le (by omega),rmG]);have hsl41:sl.length ≤ 41:=by omega
      clear HP;cases sb with
      | true =>
        have HR:=Lib.hid (show rmark s i b = if 40 < sl.length then (2,[]) else (0,sl) from by rw [HRM.out,HG.out];rfl);obtain ⟨lq,q0,q1⟩:=keep_cells hq1;have f0:=frozen_of_row (j:=0) hq1;have f1:=frozen_of_row (j:=1) hq1;by_cases h41:40 < sl.length
        · have h41':(40:Int) < (sl.length:Int):=by omega
          have HR2:=Lib.hid (show rmark s i b = (2,[]) from by rw [HR.out,if_pos h41]);clear h41;go_wp2;refine bodyPost_ret (results_cell2 rfl _ _ (w.heap.size + 1) 25 #[.slice none 0 0,.slice none 0 0] (0,0) _ rfl (set2 hq1 hbw (by omega)).1 Tryz.underlying25 rfl Tryz.infoShf) rfl ?_;exact ⟨_,by first | (rw [HR2.out];done) | (rw [HR2.out];rfl),by unfold rmS;rw [HR2.out];exact ShK.nil _ _ _ _ _,(set2 hq1 hbw (by omega)).2.1⟩
        · have h41':¬ (40:Int) < (sl.length:Int):=by omega
          have HR2:=Lib.hid (show rmark s i b = (0,sl) from by rw [HR.out,if_neg h41]);clear h41;go_wp2;refine bodyPost_ret (results_cell2 rfl _ _ (w.heap.size + 1) 25 #[.slice ao s.1.length cap,.slice au sl.length cu] (0,0) _ rfl (set2 hq1 hbw (by omega)).1 Tryz.underlying25 rfl Tryz.infoShf) rfl ?_;exact ⟨_,by first | (rw [HR2.out];done) | (rw [HR2.out];rfl),by unfold rmS;rw [HR2.out];exact ⟨_,_,rfl,.inl ⟨rfl,rfl⟩,.inr (own_up (sto_setO HU.out (set2 hq1 hbw (by omega)).2.2 (keep_cells hq0).1) (Below.size hb0))⟩,(set2 hq1 hbw (by omega)).2.1⟩
      | false =>
        have HR:=Lib.hid (show rmark s i b = if 40 < (sl ++ [i]).length then (2,[]) else (0,sl ++ [i]) from by rw [HRM.out,HG.out];rfl);go_upto_region 17 with (at_builtin;refine wpList_append_own _ rfl _ _ 23 rfl W0.heap.size 9 i0 (.string ⟨#[]⟩) 1 16 Tryz.underlying23 hi hz0 hz1 hz2 rfl (by decide) (.slice au (sl.length) cu) (sl.length) (strV sl) rfl ?_ ⟨_,0,none⟩ 1 1 ([.string ⟨i.toArray⟩]:List Value) rfl rfl ?_ (strQ_one i) ?_ ?_ ?_ ?_; (exact HU.out.of_bl Bl.z); (exact un_news _ _); (unfold maxLen;omega);omega; (exact Nat.le_trans (Below.size hbl) (by simp));intro v5 w5 hown5 hgr5 _;obtain ⟨a5,c5,e5,-⟩:=own_shp hown5;subst e5);have hb5:Bl W0 w5:=bl_app hbl Bl.z hgr5 (fun q hq => (own_bas HU.out hq).1);have hq5:=keep_bl hq0 hb5;obtain ⟨q5l,q5a,q5b⟩:=Q0.of_bl hb5;have hbw5:=hb0.trans hb5;have HO5:=Lib.hid (sto_one hown5);obtain ⟨lq,q0,q1⟩:=keep_cells hq5;have f0:=frozen_of_row (j:=0) hq5;have f1:=frozen_of_row (j:=1) hq5;clear q0l q0a q0b hown5 hgr5;by_cases h41:40 < sl.length + 1
        · have h41':(40:Int) < ((sl.length + 1:Nat):Int):=by omega
          have h41'':(40:Int) < (sl.length:Int) + 1:=by omega
          have HR2:=Lib.hid (show rmark s i b = (2,[]) from by rw [HR.out,if_pos (by rw [List.length_append];exact h41)]);clear h41;go_wp2;refine bodyPost_ret (results_cell2 rfl _ _ (w.heap.size + 1) 25 #[.slice none 0 0,.slice none 0 0] (0,0) _ rfl (set2 hq5 hbw5 (by omega)).1 Tryz.underlying25 rfl Tryz.infoShf) rfl ?_;exact ⟨_,by first | (rw [HR2.out];done) | (rw [HR2.out];rfl),by unfold rmS;rw [HR2.out];exact ShK.nil _ _ _ _ _,(set2 hq5 hbw5 (by omega)).2.1⟩
        · have h41':¬ (40:Int) < ((sl.length + 1:Nat):Int):=by omega
          have h41'':¬ (40:Int) < (sl.length:Int) + 1:=by omega
          have HR2:=Lib.hid (show rmark s i b = (0,sl ++ [i]) from by rw [HR.out,if_neg (by rw [List.length_append];exact h41)]);clear h41;go_wp2;refine bodyPost_ret (results_cell2 rfl _ _ (w.heap.size + 1) 25 #[.slice ao s.1.length cap,.slice a5 (sl.length + 1) c5] (0,0) _ rfl (set2 hq5 hbw5 (by omega)).1 Tryz.underlying25 rfl Tryz.infoShf) rfl ?_;exact ⟨_,by first | (rw [HR2.out];done) | (rw [HR2.out];rfl),by unfold rmS;rw [HR2.out];exact ⟨_,_,rfl,.inl ⟨rfl,rfl⟩,.inr (own_up (sto_setO HO5.out (set2 hq5 hbw5 (by omega)).2.2 (keep_cells hq0).1) (Below.size hb0))⟩,(set2 hq5 hbw5 (by omega)).2.1⟩
end Go.Proofs.YthnpljkekhieiaaGreatDoor

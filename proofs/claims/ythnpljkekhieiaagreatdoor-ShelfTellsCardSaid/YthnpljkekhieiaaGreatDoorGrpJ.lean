/- Trees: Tokens. · Clean markup: kinds of elements and attributes; is a tree clean? · Tokens: Check of the program. · Tokens: one; Check of the program. · Trees: a token comes: a text; one that closes. -/
import Derived.Test.YthnpljkekhieiaaGreatDoorGrpH
import Derived.Test.YthnpljkekhieiaaGreatDoorGrpG
import Derived.Test.YthnpljkekhieiaaGreatDoorGrpI
import Derived.Deep.CutBlock
import Derived.BigRegion
import Derived.Test.YthnpljkekhieiaaGreatDoorGrpF
import Derived.Test.YthnpljkekhieiaaGreatDoorGrpC
set_option maxRecDepth 100000
set_option maxHeartbeats 8000000
namespace Go.Proofs.YthnpljkekhieiaaGreatDoor
open Go.RowKit
theorem flt_app (l m:List Nd):fltL (l ++ m) = fltL l ++ fltL m:=by
 induction l with
 | nil => rfl
 | cons d l ih => simp only [List.cons_append,fltL,ih,List.append_assoc]
theorem flt_len (l:List Nd):(fltL l).length ≤ 2 * cntL l:=by
 induction l using Nd.ind with
 | h0 => simp [fltL]
 | h1 n a x k l ik il =>
   simp only [fltL,fltN,cntL,cntN,List.length_append];split
   · simp;omega
   · split
     · simp;omega
     · simp;omega
theorem flt_take (l:List Nd) (k:Nat) (h:k < l.length):fltL (l.take (k + 1)) = fltL (l.take k) ++ fltN l[k]:=by
 rw [take_snoc l k h,flt_app];simp [fltL]
theorem flt_txt {d:Nd} (h:d.n = []):fltN d = [(1,[],[],d.x)]:=by
 cases d with
 | mk n a x k => simp only [Nd.n] at h;subst h;simp [fltN,Nd.x]
theorem flt_emp {d:Nd} (h:d.n ≠ []) (he:emptyN d.n = true):fltN d = [(2,d.n,d.a,[])]:=by
 cases d with
 | mk n a x k => simp only [Nd.n] at h he;simp [fltN,Nd.n,Nd.a,h,he]
theorem flt_el {d:Nd} (h:d.n ≠ []) (he:emptyN d.n = false):fltN d = [(2,d.n,d.a,[])] ++ fltL d.k ++ [(3,d.n,[],[])]:=by
 cases d with
 | mk n a x k => simp only [Nd.n] at h he;simp [fltN,Nd.n,Nd.a,Nd.k,h,he]
def Nq (w:World) (q:Nat) (n x:Nm) (va vk:Value):Prop:=w.heap[q]? = some (.cells #[.string ⟨n.toArray⟩,va,.string ⟨x.toArray⟩,vk] 99 (0,0))
theorem Nq.cells {w:World} {q:Nat} {n x:Nm} {va vk:Value} (h:Nq w q n x va vk):w.cell? ⟨q,0,none⟩ = some (.string ⟨n.toArray⟩)∧w.cell? ⟨q,1,none⟩ = some va∧w.cell? ⟨q,2,none⟩ = some (.string ⟨x.toArray⟩)∧w.cell? ⟨q,3,none⟩ = some vk:=by
 unfold Nq at h;simp [World.cell?,h]
theorem Nq.lt {w:World} {q:Nat} {n x:Nm} {va vk:Value} (h:Nq w q n x va vk):q < w.heap.size:=(Array.getElem?_eq_some_iff.1 h).1
theorem Nq.of_bl {w w':World} {q:Nat} {n x:Nm} {va vk:Value} (h:Nq w q n x va vk) (hb:Bl w w'):Nq w' q n x va vk:=(Below.block hb q h.lt).trans h
theorem Nq.of_gr {w w':World} {q:Nat} {n x:Nm} {va vk u:Value} (h:Nq w q n x va vk) {B sz m:Nat} {xs:List Value} (ho:w.ownsRow B 104 sz u m xs) (hg:w.grownBy w' u.ownBlock):Nq w' q n x va vk :=
 (hg.block q h.lt (fun e => own_ty ho h (by decide) e.symm)).trans h
theorem tk_more {w wr w6 wz:World} {out v' va:Value} {l:List Tok} {t:Tok} {ents:List (Tok × Value)} (hb:Bl w wr) (e1:ents.map (·.1) = l) (e2:wr.ownsRow w.heap.size 104 4 out ents.length (tkC ents)) (e3:∀ p ∈ ents,AtO wr w.heap.size p.2 p.1.2.2.1)
 (h6:Bl wr w6) (ha:AtO w6 w.heap.size va t.2.2.1) (hown':wz.ownsRow w.heap.size 104 4 v' (ents.length + 1) (tkC ents ++ [.int .i64 t.1,.string ⟨t.2.1.toArray⟩,va,.string ⟨t.2.2.2.toArray⟩])) (hgrow:w6.grownBy wz out.ownBlock):TkO wz w.heap.size v' (l ++ [t])∧Bl w wz :=
 ⟨tk_meet e1 (own_bl e2 h6) (fun p hp => (e3 p hp).of_bl h6) ha hown' hgrow,Below.trans (hb.trans h6) (below_gr hgrow (fun j hj => ((World.ownsRow.lt e2) j hj).1) (Below.size (hb.trans h6)))⟩
theorem tks_more {w wr w6 wz:World} {out v':Value} {l m:List Tok} {ents ents2:List (Tok × Value)} (hb:Bl w wr) (e1:ents.map (·.1) = l) (e2:wr.ownsRow w.heap.size 104 4 out ents.length (tkC ents)) (e3:∀ p ∈ ents,AtO wr w.heap.size p.2 p.1.2.2.1)
 (h6:Bl wr w6) (k1:ents2.map (·.1) = m) (k3:∀ p ∈ ents2,AtO w6 w.heap.size p.2 p.1.2.2.1) (hown':wz.ownsRow w.heap.size 104 4 v' (ents.length + ents2.length) (tkC ents ++ tkC ents2)) (hgrow:w6.grownBy wz out.ownBlock):TkO wz w.heap.size v' (l ++ m)∧Bl w wz :=
 ⟨tks_meet e1 (own_bl e2 h6) (fun p hp => (e3 p hp).of_bl h6) k1 k3 hown' hgrow,Below.trans (hb.trans h6) (below_gr hgrow (fun j hj => ((World.ownsRow.lt e2) j hj).1) (Below.size (hb.trans h6)))⟩
theorem toks_c (N:Nat):∀ (l:List Nd) (v:Value) (P:Nat → Prop) (w:World),wtL l < N → N ≤ 10000000 → NdS w P v l →
 Calls Tryz.prog 73 #[v] w fun e w' => ∃ v', e = .returned v' ∧ TkO w' w.heap.size v' (fltL l)∧Bl w w':=by
 induction N with
 | zero => intro l v P w h;omega
 | succ N ih =>
   intro l v P w hN hN2 hA;obtain ⟨i0,hi,hz0,hz1,hz2⟩:=info_parts Tryz.infoTok;obtain ⟨ao,cap,rfl,hcap,hA⟩:=hA.get;have hll:=cnt_len l;have hlc:=wt_cnt l;have IH:=Lib.hid ih;have HA:=Lib.hid hA;have HN:=Lib.hid hN;clear ih hA hN;go_enter Tryz.func73,Tryz.ntmps73;go_wp2;go_loopw [3,8] (fun u i wr => ∃ k:Nat,k ≤ l.length∧i = .int .i64 k∧TkO wr w.heap.size u (fltL (l.take k))∧Bl w wr) (fun _ i _ => l.length - (intOf i).toNat);case atStart => exact ⟨0,Nat.zero_le _,rfl,TkO.nil _ _,Bl.refl _⟩
   case round =>
    obtain ⟨k,hk,rfl,hT,hb⟩:=hrel;by_cases hlt:k < l.length
    · obtain ⟨g,o,va,vk,rfl,hg,-,h1,h2,h3,h4,h5,h6⟩:=HA.out k hlt;have y1:=(hb.cells.1 g _ hg).trans h1;have y2:=(hb.cells.1 g _ hg).trans h2;have y3:=(hb.cells.1 g _ hg).trans h3;have y4:=(hb.cells.1 g _ hg).trans h4;have hgr:g < wr.heap.size:=Nat.lt_of_lt_of_le hg (Below.size hb);have hwt:=wt_get l k hlt;have hN3:=HN.out;have hal:l[k].a.length ≤ 100000000:=by have:=wtA_len l[k].a;omega
      have CC:=Lib.hid (fun W (hbW:Bl w W) => clone_o l[k].a va hal W (h5.ats.of_bl hbW));have KC:=Lib.hid (fun W (hbW:Bl w W) => IH.out l[k].k vk P W (by omega) (by omega) (h6.of_bl hbW));have EC:=Lib.hid (fun W => empty_c l[k].n W);have HS:=Lib.hid (flt_take l k hlt);have hl1:(fltL (l.take k)).length + (fltN l[k]).length ≤ 20000000:=by
       have h7:=flt_len l;have h8:fltL l = fltL (l.take (k + 1)) ++ fltL (l.drop (k + 1)):=by rw [← flt_app,List.take_append_drop]
       rw [h8,HS.out] at h7;simp only [List.length_append] at h7;omega
      have HL:=Lib.hid hl1;obtain ⟨a1,n1,c1,rfl⟩:∃ a n c,va = .slice a n c:=by obtain ⟨a,c,e,-⟩:=h5;exact ⟨a,_,c,e⟩
      obtain ⟨a2,c2,rfl⟩:∃ a c,vk = .slice a l[k].k.length c:=by obtain ⟨a,c,e,-⟩:=h6;exact ⟨a,c,e⟩
      clear h1 h2 h3 h4 h5 h6 hl1;obtain ⟨ents,e1,e2,e3⟩:=hT;have E1:=Lib.hid e1;have E2:=Lib.hid e2;have E3:=Lib.hid e3;have hel:ents.length ≤ 20000000:=by
       have:ents.length = (fltL (l.take k)).length:=by rw [← e1,List.length_map]
       have:=HL.out;omega
      clear e1 e2 e3;by_cases hn:l[k].n = []
      · have HT:=Lib.hid (flt_txt hn);clear EC CC KC;go_wp2_with (at_builtin;refine Hid.out ?_);refine Lib.hid ?_;refine wpList_append_own _ rfl _ _ 87 rfl w.heap.size 104 i0 (.agg #[.int .i64 0,.string ⟨#[]⟩,.slice none 0 0,.string ⟨#[]⟩]) 4 64 Tryz.underlying87 hi hz0 hz1 hz2 rfl (by decide) u3 ents.length (tkC ents) rfl (own_bl E2.out Bl.z) ⟨wr.heap.size + 1,0,none⟩ 1 1 [.int .i64 1,.string ⟨#[]⟩,.slice none 0 0,.string ⟨l[k].x.toArray⟩] rfl rfl (new_cells2 wr _ #[.int .i64 1,.string ⟨#[]⟩,.slice none 0 0,.string ⟨l[k].x.toArray⟩] _) (by simp [Value.oneCell']) (by unfold maxLen;omega) (by omega) (by have:=Below.size hb;simp;omega) ?_;intro v' wz hown' hgrow _;obtain ⟨hT3,hb3⟩:=tk_more (t:=(1,[],[],l[k].x)) hb E1.out E2.out E3.out Bl.z (AtO.nil _ _) hown' hgrow;clear hown' hgrow;go_wp2;go_roundw;case rel => exact ⟨k + 1,by omega,by go_num,by rw [HS.out,HT.out];exact hT3,hb3⟩
        case measure => simp [intOf];omega
      · have hne:l[k].n.isEmpty = false:=by cases e:l[k].n <;> simp_all
        have HNE:=Lib.hid hn;clear hn;go_upto_region 7 with fail;go_cut [3] from 21 to 29 (fun t wx => TkO wx w.heap.size t (fltL (l.take k) ++ [(2,l[k].n,l[k].a,[])])∧Bl w wx∧Nq wx wr.heap.size l[k].n l[k].x (.slice a1 n1 c1) (.slice a2 l[k].k.length c2));case first =>
         go_region_law (first | (go_simp;go_at_call 104; (with_reducible refine (CC.out _ hb.up).mono ?_);rintro e w2 ⟨va2,rfl,hO2', hb2⟩;have hO2:=hO2'.base_le (B':=w.heap.size) (by have:=Below.size hb;simp;omega);clear hO2'; obtain ⟨ao2,cc2,rfl⟩:=hO2.shape;have hbq:Bl wr w2:=Bl.trans Bl.z hb2;have hq2:Nq w2 wr.heap.size l[k].n l[k].x (.slice a1 n1 c1) (.slice a2 l[k].k.length c2):=(Below.block hb2 wr.heap.size (by simp)).trans (heap_alloc_new _ _);obtain ⟨p0,p1,p2,p3⟩:=hq2.cells;have hql2:=hq2.lt) | go_loud (refine step_append_own rfl (.tmp 21) (.tmp 28) 87 rfl w.heap.size 104 i0 (.agg #[.int .i64 0,.string ⟨#[]⟩,.slice none 0 0,.string ⟨#[]⟩]) 4 64 Tryz.underlying87 hi hz0 hz1 hz2 rfl (by decide) u3 ents.length (tkC ents) (by simp [Act.eval]) (own_bl E2.out (Bl.trans hbq Bl.z)) ⟨w2.heap.size,0,none⟩ 1 1 [.int .i64 2,.string ⟨l[k].n.toArray⟩,.slice ao2 l[k].a.length cc2,.string ⟨#[]⟩] (by simp [Act.eval]) rfl (new_cells w2 #[.int .i64 2,.string ⟨l[k].n.toArray⟩,.slice ao2 l[k].a.length cc2,.string ⟨#[]⟩] _) (by simp [Value.oneCell']) (by unfold maxLen;omega) (by omega) (by have:=Below.size hb;have:=Below.size hbq;simp;omega) ?_;intro v' wz hown3 hgrow;obtain ⟨hT3,hb3⟩:=tk_more (t:=(2,l[k].n,l[k].a,[])) hb E1.out E2.out E3.out (Bl.trans hbq Bl.z) (hO2.of_bl Bl.z) hown3 hgrow;have hq3:=(Nq.of_bl hq2 Bl.z).of_gr (own_bl E2.out (Bl.trans hbq Bl.z)) hgrow;obtain ⟨o0,o1,o2,o3⟩:=hq3.cells;have hql3:=hq3.lt;clear hown3 hgrow))
         all_goals
          go_wp2_with fail;go_meet;case rel => first | exact ⟨hT3,hb3,hq3⟩ | exact ⟨hT3.of_bl (Bl.drew (Bl.refl _)),Bl.drew hb3,hq3.of_bl (Bl.drew (Bl.refl _))⟩
        case rest =>
         obtain ⟨hT2,hb2,hq2⟩:=hcut;obtain ⟨z0,z1,z2,z3⟩:=hq2.cells;have hql:=hq2.lt;cases he:emptyN l[k].n
         · rw [he] at EC;have HT:=Lib.hid (flt_el HNE.out he);have hl6:(fltL l[k].k).length ≤ 20000000:=by
            have:=HL.out;rw [HT.out] at this;simp only [List.length_append] at this;omega
           have HK:=Lib.hid hl6;obtain ⟨ents4,f1,f2,f3⟩:=hT2;have hel4:ents4.length ≤ 20000001:=by
            have h7:ents4.length = (fltL (l.take k) ++ [(2,l[k].n,l[k].a,[])]).length:=by rw [← f1,List.length_map]
            rw [List.length_append] at h7;have:=HL.out;simp only [List.length_cons,List.length_nil] at h7;omega
           clear he;go_wp2_with (first | (go_at_call 105; (with_reducible refine (EC.out _).mono ?_);rintro e w5 ⟨rfl,rfl⟩) | (go_at_call 73; (with_reducible refine (KC.out _ hb2).mono ?_);rintro e w6 ⟨v6,rfl,hT6,hb6⟩;obtain ⟨ents6,k1,k2,k3⟩:=TkO.base_le hT6 (Below.size hb2);have hel6:ents6.length ≤ 20000000:=(by have h7:ents6.length = (fltL l[k].k).length:=(by rw [← k1,List.length_map]);have:=HK.out;omega);have hbs:=Below.size (hb2.trans hb6)) | (at_builtin; (refine wpList_append_row _ rfl _ _ 87 rfl w.heap.size w.heap.size 104 i0 (.agg #[.int .i64 0,.string ⟨#[]⟩,.slice none 0 0,.string ⟨#[]⟩]) 4 64 Tryz.underlying87 hi hz0 hz1 hz2 rfl (by decide) _ ents4.length (tkC ents4) rfl (own_bl f2 hb6) _ ents6.length (tkC ents6) rfl k2 (tkC_one ents6 (fun p hp => (k3 p hp).one)) (by unfold maxLen;omega) (by omega) hbs ?_)));intro v7 w7 hown7 hgrow7;obtain ⟨hT7,hb7⟩:=tks_more hb2 f1 f2 f3 hb6 k1 k3 hown7 hgrow7;have hq7:=(hq2.of_bl hb6).of_gr (own_bl f2 hb6) hgrow7;obtain ⟨x0,x1,x2,x3⟩:=hq7.cells;have hql7:=hq7.lt;clear hown7 hgrow7 z0 z1 z2 z3 k2 k3 f2 f3;obtain ⟨ents7,m1,m2,m3⟩:=hT7;have hel7:ents7.length ≤ 40000001:=by
            have h7:ents7.length = (fltL (l.take k) ++ [(2,l[k].n,l[k].a,[])] ++ fltL l[k].k).length:=by rw [← m1,List.length_map]
            rw [List.length_append,← f1,← k1] at h7;simp only [List.length_map] at h7;omega
           go_wp2_with (at_builtin; (refine wpList_append_own _ rfl _ _ 87 rfl w.heap.size 104 i0 (.agg #[.int .i64 0,.string ⟨#[]⟩,.slice none 0 0,.string ⟨#[]⟩]) 4 64 Tryz.underlying87 hi hz0 hz1 hz2 rfl (by decide) _ ents7.length (tkC ents7) rfl (own_bl m2 Bl.z) ⟨_,0,none⟩ 1 1 [.int .i64 3,.string ⟨l[k].n.toArray⟩,.slice none 0 0,.string ⟨#[]⟩] rfl rfl (new_cells _ #[.int .i64 3,.string ⟨l[k].n.toArray⟩,.slice none 0 0,.string ⟨#[]⟩] _) (by simp [Value.oneCell']) (by unfold maxLen;omega) (by omega) (by have:=Below.size hb7;simp;omega) ?_));intro v8 w8 hown8 hgrow8 _;obtain ⟨hT8,hb8⟩:=tk_more (t:=(3,l[k].n,[],[])) hb7 m1 m2 m3 Bl.z (AtO.nil _ _) hown8 hgrow8;clear hown8 hgrow8;go_wp2;go_roundw;case rel => exact ⟨k + 1,by omega,by go_num,by rw [HS.out,HT.out,← List.append_assoc,← List.append_assoc];exact hT8,hb8⟩
           case measure => simp [intOf];omega
         · rw [he] at EC;have HT:=Lib.hid (flt_emp HNE.out he);clear he;go_wp2_with (go_at_call 105; (with_reducible refine (EC.out _).mono ?_);rintro e w5 ⟨rfl,rfl⟩);go_roundw;case rel => exact ⟨k + 1,by omega,by go_num,by rw [HS.out,HT.out];exact hT2,hb2⟩
           case measure => simp [intOf];omega
    · have HE:=Lib.hid (show l.take k = l from List.take_of_length_le (by omega));go_wp2;go_ret;exact ⟨_,rfl,by rw [← HE.out];exact hT,hb⟩
theorem ctn_iff (l:List Nm) (n:Nm):((List.range l.length).any fun i => decide (n = l.getD i [])) = l.contains n:=by
 rw [any_range (fun x => decide (n = x)) l [],Bool.eq_iff_iff,List.any_eq_true];simp
theorem indexS_c (l:List Nm) (v:Value) (nm:Nm) (hl:l.length ≤ 1099511627776) (w:World) (hA:StS w v l) :
 Calls Tryz.prog 152 #[v,.string ⟨nm.toArray⟩] w fun e w' => e = .returned (.int .i64 (ixB (fun i => decide (nm = l.getD i [])) l.length))∧Bl w w':=by
 obtain ⟨ao,cap,rfl,hc,hA⟩:=hA;go_enter Tryz.func152,Tryz.ntmps152;go_wp2;go_loopw [8] (fun i wr => ∃ k:Nat,k ≤ l.length∧i = .int .i64 k∧Hid (∀ j,j < k → decide (nm = l.getD j []) = false)∧Bl w wr) (fun i _ => l.length - (intOf i).toNat);case atStart => exact ⟨0,Nat.zero_le _,rfl,Lib.hid (fun j h => by omega),Bl.refl _⟩
 case round =>
  obtain ⟨k,hk,rfl,HP,hbl⟩:=hrel;by_cases hlt:k < l.length
  · obtain ⟨g,o,rfl,hg,h1⟩:=hA k hlt;have x1:=(hbl.cells.1 g _ hg).trans h1;have HD:=Lib.hid (show decide (nm = l.getD k []) = decide (nm = l[k]) by rw [getD_get _ _ _ hlt]);obtain ⟨d,hd⟩:∃ d,d = l[k]:=⟨_,rfl⟩;rw [← hd] at x1 HD;clear h1 hA hd;by_cases he:nm = d
    · have HF:=Lib.hid (show decide (nm = l.getD k []) = true by rw [HD.out];exact decide_eq_true he);have he':(nm == d) = true:=by simpa using he
      clear HD he;go_wp2;go_ret;exact ⟨ret_int (ixB_hit _ _ k hlt HF.out HP.out).symm,hbl⟩
    · have HF:=Lib.hid (show decide (nm = l.getD k []) = false by rw [HD.out];exact decide_eq_false he);have he':(nm == d) = false:=by simpa using he
      clear HD he;go_wp2;go_roundw;case rel =>
       refine ⟨k + 1,by omega,by go_num,Lib.hid (fun j hjk => ?_),hbl⟩;by_cases e:j = k
       · subst e;exact HF.out
       · exact HP.out j (by omega)
      case measure => simp [intOf];omega
  · go_wp2;go_ret;exact ⟨ret_int (ixB_miss _ _ (fun j hj => HP.out j (by omega))).symm,hbl⟩
theorem containsS_c (l:List Nm) (v:Value) (nm:Nm) (hl:l.length ≤ 1099511627776) (w:World) (hA:StS w v l) :
 Calls Tryz.prog 131 #[v,.string ⟨nm.toArray⟩] w fun e w' => e = .returned (.bool (l.contains nm))∧Bl w w':=by
 have HI:=Lib.hid (indexS_c l v nm hl w hA);have HX:=Lib.hid ((ixB_any (fun i => decide (nm = l.getD i [])) l.length).trans (ctn_iff l nm));obtain ⟨ao,vc,rfl,-⟩:=hA;go_enter Tryz.func131,Tryz.ntmps131;go_wp2_with (go_at_call 152; (with_reducible refine HI.out.mono ?_);rintro e w' ⟨rfl,hb'⟩);go_ret;exact ⟨ret_bool HX.out,hb'⟩
def strA (l:List Nm):Array Value:=(l.map fun n => Value.string ⟨n.toArray⟩).toArray
theorem sts_new (w:World) (l:List Nm) (e:TypeId) (c:Nat) (hc:l.length ≤ c):StS (w.alloc (.cells (strA l) e)) (.slice (some ⟨w.heap.size,0,none⟩) l.length c) l:=by
 refine ⟨_,_,rfl,hc,fun i hi => ⟨w.heap.size,0,rfl,by simp,?_⟩⟩;have:=new_cells w (strA l) e i (.string ⟨l[i].toArray⟩) (by simp [strA,hi]);rw [show (⟨w.heap.size,0,none⟩:Addr).add i = ⟨w.heap.size,0 + i,none⟩ by unfold Addr.add;split <;> simp_all] at this;exact this
theorem allowed_c (n:Nm) (w:World):Calls Tryz.prog 98 #[.string ⟨n.toArray⟩] w fun e w' => e = .returned (.bool (alwN n))∧Bl w w':=by
 have CC:=Lib.hid (fun W (h:StS W (.slice (some ⟨w.heap.size,0,none⟩) 14 14) alwL) => containsS_c alwL _ n (by decide) W h);have HS:=Lib.hid (sts_new w alwL 9 14 (by decide));go_enter Tryz.func98,Tryz.ntmps98;go_wp2_with (go_at_call 131; (with_reducible refine (CC.out _ HS.out).mono ?_);rintro e w' ⟨rfl,hb'⟩);go_ret;exact ⟨ret_bool (by unfold alwN;simp),((Bl.refl _).alloc _).trans hb'⟩
theorem link_c (n:Nm) (w:World):Calls Tryz.prog 97 #[.string ⟨n.toArray⟩] w fun e w' => e = .returned (.bool (lnkN n))∧w = w':=by
 go_enter Tryz.func97,Tryz.ntmps97;go_wp2;all_goals (go_ret;exact ⟨ret_bool (by rw [Bool.eq_iff_iff];simp [lnkN,sHref,sSrc, *] <;> exact decide_eq_true_iff.symm),rfl⟩)
theorem attr_c (n:Nm) (a:Atr) (w:World):Calls Tryz.prog 96 #[.string ⟨n.toArray⟩,atV a] w fun e w' => e = .returned (.bool (mayA n a.1))∧Bl w w':=by
 obtain ⟨x,y⟩:=a;unfold atV;by_cases h1:n = sA
 · subst h1;have HM:=Lib.hid (show mayA sA x = (decide (x = sHref) || decide (x = sTitle)) by unfold mayA;simp [sA,sImg]);by_cases h2:x = sHref
   · subst h2;unfold sA sHref at *;go_enter Tryz.func96,Tryz.ntmps96;go_wp2;go_ret;exact ⟨ret_bool (by decide),(Bl.refl _).alloc _⟩
   · have HX:=Lib.hid h2;have h2':(x == [104,114,101,102]) = false:=by simpa [sHref] using h2
     clear h2;unfold sA;go_enter Tryz.func96,Tryz.ntmps96;go_wp2;go_ret;exact ⟨ret_bool (by rw [show mayA [97] x = _ from HM.out,decide_eq_false HX.out,Bool.false_or,Bool.eq_iff_iff];simp [sTitle];exact decide_eq_true_iff.symm),(Bl.refl _).alloc _⟩
 · have h1':(n == [97]) = false:=by simpa [sA] using h1
   by_cases h2:n = sImg
   · subst h2;have HM:=Lib.hid (show mayA sImg x = (decide (x = sSrc) || decide (x = sAlt)) by unfold mayA;simp [sA,sImg]);by_cases h3:x = sSrc
     · subst h3;unfold sImg sSrc at *;go_enter Tryz.func96,Tryz.ntmps96;go_wp2;go_ret;exact ⟨ret_bool (by decide),(Bl.refl _).alloc _⟩
     · have HX:=Lib.hid h3;have h3':(x == [115,114,99]) = false:=by simpa [sSrc] using h3
       clear h3 h1;unfold sImg;go_enter Tryz.func96,Tryz.ntmps96;go_wp2;go_ret;exact ⟨ret_bool (by rw [show mayA [105,109,103] x = _ from HM.out,decide_eq_false HX.out,Bool.false_or,Bool.eq_iff_iff];simp [sAlt];exact decide_eq_true_iff.symm),(Bl.refl _).alloc _⟩
   · have h2':(n == [105,109,103]) = false:=by simpa [sImg] using h2
     have HM:=Lib.hid (show mayA n x = false by unfold mayA;simp [h1,h2]);clear h1 h2;go_enter Tryz.func96,Tryz.ntmps96;go_wp2;go_ret;exact ⟨ret_bool (by rw [HM.out]),(Bl.refl _).alloc _⟩
theorem AtS.take {w:World} {g o c:Nat} {l:List Atr} (h:∀ i (h:i < l.length),w.cell? ⟨g,o + i * 2,none⟩ = some (.string ⟨l[i].1.toArray⟩)∧w.cell? ⟨g,o + i * 2 + 1,none⟩ = some (.string ⟨l[i].2.toArray⟩)) (hg:g < w.heap.size) (k:Nat) (hk:k ≤ l.length):AtS w (.slice (some ⟨g,o,none⟩) k c) (l.take k):=by
 have hl:(l.take k).length = k:=by simp;omega
 refine ⟨some ⟨g,o,none⟩,c,by rw [hl],fun i hi => ?_⟩;rw [hl] at hi;have hi':i < l.length:=by omega
 refine ⟨g,o,rfl,hg,?_,?_⟩
 · have:=(h i hi').1;simpa using this
 · have:=(h i hi').2;simpa using this
structure OkS (s:St) (more:Nat):Prop where
 iv:Iv s
 cnt:cntS s ≤ 90000
 txt:(ntxS s).length + more ≤ 1099511627776
theorem token_c1 (base b:Nat) (P:Nat → Prop) (s:St) (x:List UInt8) (va:Value) (w:World) (hB:BdS w base b P s) (hbw:base ≤ w.heap.size) (hO:OkS s x.length) (hva:∃ a n c,va = .slice a n c) :
 Calls Tryz.prog 88 #[.pointer (some ⟨b,0,none⟩),.agg #[.int .i64 1,.string ⟨#[]⟩,va,.string ⟨x.toArray⟩]] w fun e w' => e = .returned (.tuple #[])∧(∃ P', BdS w' base b P' (stp s (1,[],[],x)))∧Below base w w':=by
 obtain ⟨a,n,c,rfl⟩:=hva;have PC:=Lib.hid (fun (W:World) (hb:Bl w W) => put_tx base b P s x W (hB.of_bl hb) (Nat.le_trans hbw (Below.size hb)) hO.iv (by have:=hO.cnt;omega) hO.txt);clear hB hO;go_enter Tryz.func88,Tryz.ntmps88;go_wp2_with (go_at_call 121; (with_reducible refine (PC.out _ ((Bl.refl _).alloc _)).mono ?_);rintro e w2 ⟨rfl,hB2,hb2,-⟩);go_end0;exact ⟨rfl,⟨P,hB2⟩,Below.trans (Below.alloc (Below.refl _ _) hbw _) hb2⟩
theorem abI_rev (nm:Nm) (p:Nm → Bool) (l:List Nm):abI nm p l.reverse = match abv nm p l with | some i => (i:Int) | none => -1:=by unfold abI;rw [List.reverse_reverse];cases abv nm p l <;> rfl
theorem BdS.blt {w:World} {base b:Nat} {P:Nat → Prop} {s:St} (h:BdS w base b P s):b < w.heap.size:=by
 obtain ⟨_,_,_,_,_,_,h⟩:=h;exact h.blt
theorem token_c3 (base b:Nat) (P:Nat → Prop) (s:St) (nm:Nm) (va:Value) (w:World) (hB:BdS w base b P s) (hbw:base ≤ w.heap.size) (hO:OkS s 0) (hva:∃ a n c,va = .slice a n c) :
 Calls Tryz.prog 88 #[.pointer (some ⟨b,0,none⟩),.agg #[.int .i64 3,.string ⟨nm.toArray⟩,va,.string ⟨#[]⟩]] w fun e w' => e = .returned (.tuple #[])∧(∃ P', BdS w' base b P' (stp s (3,nm,[],[])))∧Below base w w':=by
 obtain ⟨a,n,c,rfl⟩:=hva;have h8:=iv_len hO.iv.1;have hnl:(nms s).reverse.length ≤ 1099511627776:=by rw [List.length_reverse,nms_len];omega
 have NC:=Lib.hid (fun (W:World) (hb:Bl w W) => names_c base b P s W (hB.of_bl hb) (by omega));have AC:=fun (v:Value) (W:World) (h:StS W v (nms s).reverse) => above_c _ _ do_never (nms s).reverse v nm hnl W h
 rw [abI_rev] at AC;have CC:=Lib.hid (fun (i:Nat) (W:World) (hb:Bl w W) => close_c base b P s i W (hB.of_bl hb) (Nat.le_trans hbw (Below.size hb)) hO.iv (by have:=hO.cnt;omega));have HB:=Lib.hid hB;cases hab:abv nm (fun _ => false) (nms s) with
 | none =>
   have HS:=Lib.hid (show stp s (3,nm,[],[]) = s by unfold stp;rw [if_neg (show ¬ (3:Int) = 1 by decide),if_neg (show ¬ (3:Int) = 2 by decide),if_pos rfl,hab]);rw [hab] at AC;have AC:=Lib.hid AC;clear hab hB hO h8 hnl;go_enter Tryz.func88,Tryz.ntmps88;go_wp2_with fail;go_region_with (first | (go_at_call 123; (with_reducible refine (NC.out _ Bl.z).mono ?_);rintro e w1 ⟨v,rfl,hS1,hb1⟩;have z1:w1.cell? ⟨w.heap.size,1,none⟩ = some (.string ⟨nm.toArray⟩):=(hb1.cells.1 w.heap.size 1 (by simp)).trans (by simp);have hw1:Bl w w1:=Bl.trans Bl.z hb1;clear hb1) | (go_at_call 124; (with_reducible refine (AC.out _ _ (by first | exact hS1 | exact hS1.of_bl (Below.drew (Bl.refl _)))).mono ?_);rintro e w7 ⟨rfl,rfl⟩));all_goals
    go_wp2;go_end0;exact ⟨rfl,⟨P,by rw [HS.out];exact HB.out.of_bl (by first | exact hw1 | exact Below.drew hw1)⟩,Below.mono (by first | exact hw1 | exact Below.drew hw1) hbw⟩
 | some i =>
   have HS:=Lib.hid (show stp s (3,nm,[],[]) = pops (s.2.length - i) s by unfold stp;rw [if_neg (show ¬ (3:Int) = 1 by decide),if_neg (show ¬ (3:Int) = 2 by decide),if_pos rfl,hab]);rw [hab] at AC;have AC:=Lib.hid AC;clear hab hB hO h8 hnl;go_enter Tryz.func88,Tryz.ntmps88;go_wp2_with fail;go_region_with (first | (go_at_call 123; (with_reducible refine (NC.out _ Bl.z).mono ?_);rintro e w1 ⟨v,rfl,hS1,hb1⟩;have z1:w1.cell? ⟨w.heap.size,1,none⟩ = some (.string ⟨nm.toArray⟩):=(hb1.cells.1 w.heap.size 1 (by simp)).trans (by simp);have hw1:Bl w w1:=Bl.trans Bl.z hb1;clear hb1) | (go_at_call 124; (with_reducible refine (AC.out _ _ (by first | exact hS1 | exact hS1.of_bl (Below.drew (Bl.refl _)))).mono ?_);rintro e w7 ⟨rfl,rfl⟩));all_goals
    go_wp2_with (go_at_call 89; (with_reducible refine (CC.out i _ (by first | exact hw1 | exact Below.drew hw1)).mono ?_);rintro e w2 ⟨rfl,⟨P2,-,hB2⟩,hb2,-⟩);go_end0;exact ⟨rfl,⟨P2,by rw [HS.out];exact hB2⟩,Below.trans (Below.mono (show Bl w _ by first | exact hw1 | exact Below.drew hw1) hbw) hb2⟩
end Go.Proofs.YthnpljkekhieiaaGreatDoor

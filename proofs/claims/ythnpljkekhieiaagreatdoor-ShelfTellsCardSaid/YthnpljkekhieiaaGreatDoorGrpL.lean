/- Trees: node of the program (printed by gen_trenode.py). · Trees: slices.Clone of texts; check of the program. · Trees: check of the program. · Trees: Build of the program. · Tokens that are handed in: what the row's reading gives. · Trees: the constant tree and its tokens, in plain Lean. · Trees: the constant tree of the laws, in memory. · Trees: Check and Flat; what must be in any case. · Trees: textIn and inside of the laws. · Trees: the law TreeKeeps. · Trees that are handed in: what the row's reading gives; weights. · Trees: what is built weighs no more than its tokens; what is flattened neither. · Clean markup: the closures of safe; safe; Stays. -/
import Derived.Test.YthnpljkekhieiaaGreatDoorGrpH
import Derived.Test.YthnpljkekhieiaaGreatDoorGrpG
import Derived.Test.YthnpljkekhieiaaGreatDoorGrpJ
import Derived.Test.YthnpljkekhieiaaGreatDoorTreH
import Derived.Deep.AppendLies
import Derived.Test.YthnpljkekhieiaaGreatDoorGrpK
import Derived.Test.YthnpljkekhieiaaGreatDoorTokBy
import Derived.Test.YthnpljkekhieiaaGreatDoorRows
import Derived.Lib.SmallJoins
import Derived.Test.YthnpljkekhieiaaGreatDoorGrpC
import Derived.BigQuiet
set_option maxHeartbeats 1000000
namespace Go.Proofs.YthnpljkekhieiaaGreatDoor
open Go.RowKit
theorem addr_at (g o j:Nat):(⟨g,o,none⟩:Addr).add j = ⟨g,o + j,none⟩:=by unfold Addr.add;split <;> simp_all
theorem strV_one (l:List Nm):∀ u ∈ strV l,u.oneCell' = true:=by
 intro u hu;obtain ⟨n,_,rfl⟩:=List.mem_map.1 hu;rfl
theorem sts_news {w:World} {g o c:Nat} {l:List Nm} (h:StS w (.slice (some ⟨g,o,none⟩) l.length c) l):∀ j u,(strV l)[j]? = some u → w.cell? ((⟨g,o,none⟩:Addr).add j) = some u:=by
 intro j u hj;obtain ⟨ao,cap,e,_,h⟩:=h;cases e;rw [addr_at];unfold strV at hj;rw [List.getElem?_map] at hj;cases e2:l[j]? with
 | none => rw [e2] at hj;simp at hj
 | some n =>
   rw [e2] at hj;obtain ⟨hjl,e3⟩:=List.getElem?_eq_some_iff.1 e2;obtain ⟨g', o', e4,_,h3⟩:=h j hjl;cases e4;rw [h3,e3];simpa using hj
theorem cloneS_c (l:List Nm) (v:Value) (hl:l.length ≤ 100000000) (w:World) (hA:StS w v l) :
 Calls Tryz.prog 44 #[v] w fun e w' => ∃ v', e = .returned v' ∧ w'.ownsRow w.heap.size 9 1 v' l.length (strV l)∧Bl w w':=by
 obtain ⟨i0,hi,hz0,hz1,hz2⟩:=info_parts Tryz.infoStr;have hA':=hA;obtain ⟨ao,cap,rfl,hcap,hA⟩:=hA;have hnil:=fun (W:World) (a:Option Addr) (n c:Nat) => Lib.run_eql_slice_nil (P:=Tryz.prog) W 23 9 a n c 0 0 Tryz.underlying23
 cases ao with
 | none =>
   have h0:l = []:=by
    rcases l with _ | ⟨a,l⟩
    · rfl
    · obtain ⟨g,o,e,_⟩:=hA 0 (by simp);cases e
   subst h0;clear hA hA';go_enter Tryz.func44,Tryz.ntmps44;go_wp2;go_ret;exact ⟨_,rfl,World.ownsRow_nil _ _ _ _,Bl.refl _⟩
 | some a =>
   by_cases h0:l = []
   · subst h0;clear hA hA';go_enter Tryz.func44,Tryz.ntmps44;go_wp2;go_ret;exact ⟨_,rfl,World.ownsRow_made (base:=w.heap.size) (e:=9) (size:=1) w #[] 0 (Nat.le_refl _) (by decide) rfl,(Bl.refl _).alloc _⟩
   · have hpos:=List.length_pos_iff.2 h0;obtain ⟨g,o,e,_⟩:=hA 0 hpos;cases e;have HN:=Lib.hid hA';clear hA hA' h0;go_enter Tryz.func44,Tryz.ntmps44;go_wp2_with (at_builtin;refine wpList_append_own _ rfl _ _ 23 rfl w.heap.size 9 i0 (.string ⟨#[]⟩) 1 16 Tryz.underlying23 hi hz0 hz1 hz2 rfl (by decide) (.slice (some ⟨w.heap.size,0,none⟩) 0 0) 0 [] rfl (World.ownsRow_made (base:=w.heap.size) (e:=9) (size:=1) w #[] 0 (Nat.le_refl _) (by decide) rfl) ⟨g,o,none⟩ l.length cap (strV l) rfl (by simp [strV]) (sts_news (HN.out.of_bl ((Bl.refl _).alloc _))) (strV_one l) (by unfold maxLen;omega) (by omega) (by simp) ?_);intro v' wz hown' hgrow _;have hbz:Bl w wz:=Below.trans ((Bl.refl w).alloc _) (bel_gr hgrow (fun j hj => by simp only [Value.ownBlock,Option.some.injEq] at hj;omega) (by simp));have HO:=Lib.hid hown';obtain ⟨ao,c,rfl,-⟩:=own_shp hown';clear hgrow hown';go_wp2;go_ret;exact ⟨_,rfl,by have:=HO.out;simpa using this,hbz⟩
theorem one_news {w:World} {g:Nat} {v:Value} (h:w.cell? ⟨g,0,none⟩ = some v):∀ j u,[v][j]? = some u → w.cell? ((⟨g,0,none⟩:Addr).add j) = some u:=by
 intro j u hj;rw [addr_at,Nat.zero_add];cases j with
 | zero => simp only [List.getElem?_cons_zero,Option.some.injEq] at hj;subst hj;exact h
 | succ j => simp at hj
theorem own_baseT {w:World} {base base':Nat} {e:TypeId} {size:Nat} {v:Value} {n:Nat} {xs:List Value} (h:w.ownsRow base e size v n xs) (hb:base' ≤ base):w.ownsRow base' e size v n xs:=⟨h.1,h.2.imp id fun ⟨g,c,cur,h1,h2,h3⟩ => ⟨g,c,cur,h1,Nat.le_trans hb h2,h3⟩⟩
theorem own_sts' {w:World} {base:Nat} {v:Value} {l:List Nm} {n:Nat} (hn:n = l.length) (h:w.ownsRow base 9 1 v n (strV l)):StS w v l:=by subst hn;exact own_sts h
end Go.Proofs.YthnpljkekhieiaaGreatDoor
namespace Go.Proofs.YthnpljkekhieiaaGreatDoor
open Go.RowKit Go.ChangeShapes Go.WideShapes Go.ChangeAt Go.WideElems
section
variable {H:Type} {enc:TypeId × Value → H} {w:World} {sp:Nat → Bool} {held:Bool}
theorem cells_get {a:Addr} {n:Nat} {c:List Value} (h:w.cells? 0 a n = some c):c.length = n∧∀ i,i < n → w.cell? (a.add i) = c[i]?:=by
 unfold World.cells? at h;rw [if_pos (Nat.zero_le _)] at h;refine ⟨by simpa using mapM_some_length h,fun i hi => mapM_some_get h i i (by simp [hi])⟩
theorem list_of {α:Type} {Q:Nat → α → Prop} (n:Nat) (h:∀ i,i < n → ∃ a,Q i a):∃ l:List α,l.length = n∧∀ i (hi:i < l.length),Q i l[i]:=by
 induction n with
 | zero => exact ⟨[],rfl,fun i hi => absurd hi (by simp)⟩
 | succ n ih =>
   obtain ⟨l,hl,hq⟩:=ih (fun i hi => h i (by omega));obtain ⟨a,ha⟩:=h n (by omega);refine ⟨l ++ [a],by simp [hl],fun i hi => ?_⟩;simp only [List.length_append,List.length_singleton] at hi;by_cases h2:i < l.length
   · rw [List.getElem_append_left h2];exact hq i h2
   · have:i = l.length:=by omega
     subst this;simpa [hl] using ha
theorem add_at {a:Addr} (h:a.spot = none) (k:Nat):a.add k = ⟨a.block,a.off + k,none⟩:=by
 obtain ⟨b,o,s⟩:=a;subst h;unfold Addr.add;split <;> simp_all
theorem cell_lt {a:Addr} {v:Value} (h:w.cell? a = some v):a.block < w.heap.size:=by
 rcases Nat.lt_or_ge a.block w.heap.size with h1 | h1
 · exact h1
 · simp [World.cell?,Array.getElem?_eq_none h1] at h
theorem szT_len (l:List Tok):l.length ≤ szT l:=by
 induction l with
 | nil => simp
 | cons t l ih => simp only [szT,List.map_cons,List.sum_cons,List.length_cons] at *;omega
end
end Go.Proofs.YthnpljkekhieiaaGreatDoor
namespace Go.Proofs.YthnpljkekhieiaaGreatDoor
open Go.RowKit
theorem txB_sz (l:List Tok):txB l ≤ szT l:=by
 induction l with
 | nil => simp [txB]
 | cons t l ih => rw [txB_cons];simp only [szT,List.map_cons,List.sum_cons] at *;omega
end Go.Proofs.YthnpljkekhieiaaGreatDoor
namespace Go.Proofs.YthnpljkekhieiaaGreatDoor
open Go.RowKit Go.ChangeShapes Go.WideShapes Go.ChangeAt Go.WideElems
theorem wtA_sz (l:List Atr):wtA l ≤ szA l:=by
 induction l with
 | nil => simp [wtA]
 | cons a l ih => simp only [wtA,szA,List.map_cons,List.sum_cons] at *;omega
theorem szA_wt (l:List Atr):szA l ≤ 6 * wtA l:=by
 induction l with
 | nil => simp [szA]
 | cons a l ih => simp only [wtA,szA,List.map_cons,List.sum_cons] at *;omega
section
variable {H:Type} {enc:TypeId × Value → H} {w:World} {sp:Nat → Bool} {held:Bool}
end
end Go.Proofs.YthnpljkekhieiaaGreatDoor
namespace Go.Proofs.YthnpljkekhieiaaGreatDoor
open Go.RowKit
theorem wt_app (l m:List Nd):wtL (l ++ m) = wtL l + wtL m:=by
 induction l with
 | nil => simp [wtL]
 | cons d l ih => simp only [List.cons_append,wtL,ih];omega
theorem pt_wt (l:List Nd) (d:Nd):wtL (pt l d) ≤ wtL l + wtN d:=by
 have h0:wtL (l ++ [d]) = wtL l + wtN d:=by rw [wt_app];simp [wtL]
 unfold pt;split
 · rename_i a x k e;split
   · rcases List.eq_nil_or_concat l with rfl | ⟨o,c,rfl⟩
     · simp at e
     · simp only [List.concat_eq_append,List.getLast?_append,List.getLast?_singleton,Option.some_or,Option.some.injEq,List.dropLast_concat] at *;subst e;rw [wt_app,wt_app];cases d with
       | mk n' a' x' k' =>
         simp only [wtL,wtN,Nd.x,List.length_append] at *;omega
   · omega
 · omega
def wtF:List (Nm × List Atr × List Nd) → Nat
 | [] => 0
 | (n,a,k) :: f => 1 + n.length + wtA a + wtL k + wtF f
def wtS (s:St):Nat:=wtL s.1 + wtF s.2
theorem put_wt (s:St) (d:Nd):wtS (put s d) ≤ wtS s + wtN d:=by
 unfold put;split
 · rename_i r;have:=pt_wt r d;simp only [wtS,wtF];omega
 · rename_i r n a k f;have:=pt_wt k d;simp only [wtS,wtF];omega
theorem pop_wt (s:St):wtS (pop s) ≤ wtS s:=by
 unfold pop;split
 · exact Nat.le_refl _
 · rename_i r n a k f;have:=put_wt (r,f) (.mk n a [] k);simp only [wtS,wtF,wtN,List.length_nil] at *;omega
theorem pops_wt (j:Nat):∀ s:St,wtS (pops j s) ≤ wtS s:=by
 induction j with
 | zero => intro s;exact Nat.le_refl _
 | succ j ih => intro s;rw [pops_succ];exact Nat.le_trans (ih _) (pop_wt s)
theorem opn_wt (s:St) (n:Nm) (a:List Atr):wtS (opn s n a) ≤ wtS s + (1 + n.length + wtA a):=by
 unfold opn;split
 · omega
 · split
   · have:=put_wt s (.mk n a [] []);simp only [wtN,wtL,List.length_nil] at this;omega
   · simp only [wtS,wtF,wtL];omega
theorem stp_wt (s:St) (t:Tok):wtS (stp s t) ≤ wtS s + (t.2.1.length + szA t.2.2.1 + 6 * t.2.2.2.length + 5):=by
 have hA:=wtA_sz t.2.2.1;unfold stp;split
 · have:=put_wt s (.mk [] [] t.2.2.2 []);simp only [wtN,wtL,wtA,List.map_nil,List.sum_nil,List.length_nil] at this;omega
 · split
   · have h1:=opn_wt (pops (s.2.length - cls (nms s) t.2.1) s) t.2.1 t.2.2.1;have h2:=pops_wt (s.2.length - cls (nms s) t.2.1) s;omega
   · split
     · split
       · rename_i i _;have:=pops_wt (s.2.length - i) s;omega
       · omega
     · omega
theorem foldl_wt (l:List Tok):∀ s:St,wtS (l.foldl stp s) ≤ wtS s + szT l:=by
 induction l with
 | nil => intro s;simp
 | cons t l ih =>
   intro s;have h1:=ih (stp s t);have h2:=stp_wt s t;simp only [List.foldl_cons,szT,List.map_cons,List.sum_cons] at *;omega
theorem wt_ofM (l:List Tok):wtL (ofM l) ≤ szT l:=by
 have h1:=foldl_wt l ([],[]);have h2:=pops_wt (l.foldl stp ([],[])).2.length (l.foldl stp ([],[]));have h3:wtS (([],[]):St) = 0:=rfl;unfold ofM fin;have h4:∀ s:St,wtL s.1 ≤ wtS s:=fun s => by unfold wtS;omega
 have:=h4 (pops (l.foldl stp ([],[])).2.length (l.foldl stp ([],[])));omega
theorem szT_app (l m:List Tok):szT (l ++ m) = szT l + szT m:=by simp [szT]
theorem sz_flt (l:List Nd):szT (fltL l) ≤ 10 * wtL l:=by
 induction l using Nd.ind with
 | h0 => simp [fltL,szT]
 | h1 n a x k l ik il =>
   simp only [fltL,fltN,wtL,wtN,szT_app];have hA:=szA_wt a;split
   · simp only [szT,List.map_cons,List.map_nil,List.sum_cons,List.sum_nil,szA,List.length_nil] at *;omega
   · split
     · simp only [szT,List.map_cons,List.map_nil,List.sum_cons,List.sum_nil,List.length_nil] at *;omega
     · have h2:szT ((2,n,a,[]) :: (fltL k ++ [(3,n,[],[])])) = (n.length + szA a + 5) + (szT (fltL k) + (n.length + 5)):=by
        simp [szT,szA]
       rw [h2];omega
def B2 (W:World) (b:Nat) (x y:Value):Prop:=b < W.heap.size∧W.cell? ⟨b,0,none⟩ = some x∧W.cell? ⟨b,1,none⟩ = some y
theorem B2.of_bl {W W':World} {b:Nat} {x y:Value} (h:B2 W b x y) (hb:Bl W W'):B2 W' b x y :=
 ⟨Nat.lt_of_lt_of_le h.1 (Below.size hb),(hb.cells.1 b 0 h.1).trans h.2.1,(hb.cells.1 b 1 h.1).trans h.2.2⟩
theorem B2.new (w:World) (x y:Value) (t:TypeId):B2 (w.alloc (.cells #[x,y] t)) w.heap.size x y:=⟨by simp,by simp,by simp⟩
def B4 (W:World) (b:Nat) (x y z u:Value):Prop:=b < W.heap.size∧W.cell? ⟨b,0,none⟩ = some x∧W.cell? ⟨b,1,none⟩ = some y∧W.cell? ⟨b,2,none⟩ = some z∧W.cell? ⟨b,3,none⟩ = some u
theorem B4.of_bl {W W':World} {b:Nat} {x y z u:Value} (h:B4 W b x y z u) (hb:Bl W W'):B4 W' b x y z u :=
 ⟨Nat.lt_of_lt_of_le h.1 (Below.size hb),(hb.cells.1 b 0 h.1).trans h.2.1,(hb.cells.1 b 1 h.1).trans h.2.2.1,(hb.cells.1 b 2 h.1).trans h.2.2.2.1,(hb.cells.1 b 3 h.1).trans h.2.2.2.2⟩
theorem B4.new (w:World) (x y z u:Value) (t:TypeId):B4 (w.alloc (.cells #[x,y,z,u] t)) w.heap.size x y z u:=⟨by simp,by simp,by simp,by simp,by simp⟩
def B1 (W:World) (b:Nat) (x:Value):Prop:=b < W.heap.size∧W.cell? ⟨b,0,none⟩ = some x
theorem B1.of_bl {W W':World} {b:Nat} {x:Value} (h:B1 W b x) (hb:Bl W W'):B1 W' b x:=⟨Nat.lt_of_lt_of_le h.1 (Below.size hb),(hb.cells.1 b 0 h.1).trans h.2⟩
theorem badA_c (n:Nm) (a:Atr) (q:Nat) (ha:a.2.length ≤ 1000000) (w:World) (hq:B1 w q (.string ⟨n.toArray⟩)) :
 Calls Tryz.prog 95 #[atV a,.pointer (some ⟨q,0,none⟩)] w fun e w' => e = .returned (.bool (badA n a))∧Bl w w':=by
 obtain ⟨x,y⟩:=a;have AC:=Lib.hid (fun W => attr_c n (x,y) W);have LC:=Lib.hid (fun W => link_c x W);have IC:=Lib.hid (fun W => is_c y ha W);have hQ0:=hq.of_bl ((Bl.refl _).alloc (.cells #[.string ⟨x.toArray⟩,.string ⟨y.toArray⟩] 102));have hB0:=B2.new w (.string ⟨x.toArray⟩) (.string ⟨y.toArray⟩) 102;unfold atV at AC ⊢;have HB:=Lib.hid (show badA n (x,y) = (!mayA n x || lnkN x && (!isU y || decide (3000 < y.length))) from rfl);simp only at AC ha ⊢;obtain ⟨hql,hqc⟩:=hq;cases hm:mayA n x with
 | false =>
   rw [hm] at AC HB;clear hm;go_enter Tryz.func95,Tryz.ntmps95;go_wp2_with (go_at_call 96; (with_reducible refine (AC.out _).mono ?_);rintro e w1 ⟨rfl,hb1⟩);go_ret;exact ⟨ret_bool (by rw [HB.out];rfl),((Bl.refl _).alloc _).trans hb1⟩
 | true =>
   rw [hm] at AC HB;clear hm;cases hl:lnkN x with
   | false =>
     rw [hl] at LC HB;clear hl;go_enter Tryz.func95,Tryz.ntmps95;go_wp2_with (first | (go_at_call 96; (with_reducible refine (AC.out _).mono ?_);rintro e w1 ⟨rfl,hb1⟩;obtain ⟨l1,x1,y1⟩:=hB0.of_bl hb1) | (go_at_call 97; (with_reducible refine (LC.out _).mono ?_);rintro e w2 ⟨rfl,rfl⟩));go_ret;exact ⟨ret_bool (by rw [HB.out];rfl),((Bl.refl _).alloc _).trans hb1⟩
   | true =>
     rw [hl] at LC HB;clear hl;cases hu:isU y with
     | false =>
       rw [hu] at IC HB;clear hu;go_enter Tryz.func95,Tryz.ntmps95;go_wp2_with (first | (go_at_call 96; (with_reducible refine (AC.out _).mono ?_);rintro e w1 ⟨rfl,hb1⟩;obtain ⟨l1,x1,y1⟩:=hB0.of_bl hb1) | (go_at_call 97; (with_reducible refine (LC.out _).mono ?_);rintro e w2 ⟨rfl,rfl⟩) | (go_at_call 52; (with_reducible refine (IC.out _).mono ?_);rintro e w3 ⟨rfl,hb3⟩));go_ret;exact ⟨ret_bool (by rw [HB.out];rfl),(((Bl.refl _).alloc _).trans hb1).trans hb3⟩
     | true =>
       rw [hu] at IC HB;clear hu;have hd:=Lib.hid (show decide (3000 < y.length) = decide ((3000:Int) < (y.length:Int)) by rw [decide_eq_decide];omega);go_enter Tryz.func95,Tryz.ntmps95;go_wp2_with (first | (go_at_call 96; (with_reducible refine (AC.out _).mono ?_);rintro e w1 ⟨rfl,hb1⟩;obtain ⟨l1,x1,y1⟩:=hB0.of_bl hb1) | (go_at_call 97; (with_reducible refine (LC.out _).mono ?_);rintro e w2 ⟨rfl,rfl⟩) | (go_at_call 52; (with_reducible refine (IC.out _).mono ?_);rintro e w3 ⟨rfl,hb3⟩;obtain ⟨l3,x3,y3⟩:=(hB0.of_bl hb1).of_bl hb3));go_ret;exact ⟨ret_bool (by rw [HB.out,hd.out];simp),(((Bl.refl _).alloc _).trans hb1).trans hb3⟩
theorem cf_bad:∀ (args:Array Value) (W:World),Sem.run Tryz.prog (callFunc 95 args) W = .ok (.enter 95 args) W:=by
 intro args W;simp [callFunc,go_sem,Tryz.func95,Tryz.f95]
theorem cf_has:∀ (args:Array Value) (W:World),Sem.run Tryz.prog (callFunc 132 args) W = .ok (.enter 132 args) W:=by
 intro args W;simp [callFunc,go_sem,Tryz.func132,Tryz.f132]
theorem cf_safe:∀ (args:Array Value) (W:World),Sem.run Tryz.prog (callFunc 93 args) W = .ok (.enter 93 args) W:=by
 intro args W;simp [callFunc,go_sem,Tryz.func93,Tryz.f93]
def aD:Atr:=([],[])
theorem ats_hA {w:World} {ao:Option Addr} {cap:Nat} {l:List Atr} (hA:∀ i (h:i < l.length),∃ g o,ao = some ⟨g,o,none⟩∧g < w.heap.size∧w.cell? ⟨g,o + i * 2,none⟩ = some (.string ⟨l[i].1.toArray⟩)∧w.cell? ⟨g,o + i * 2 + 1,none⟩ = some (.string ⟨l[i].2.toArray⟩)) (_hc:cap = cap) :
 ∀ i,i < l.length → ∃ g o,ao = some ⟨g,o,none⟩∧g < w.heap.size∧w.cell? ⟨g,o + i * 2,none⟩ = some ((fun i => Value.string ⟨(l.getD i aD).1.toArray⟩) i)∧w.cell? ⟨g,o + i * 2 + 1,none⟩ = some ((fun i => Value.string ⟨(l.getD i aD).2.toArray⟩) i):=by
 intro i hi;obtain ⟨g,o,h1,h2,h3,h4⟩:=hA i hi;refine ⟨g,o,h1,h2,?_,?_⟩
 · show _ = some (Value.string ⟨(l.getD i aD).1.toArray⟩);rw [getD_get _ _ _ hi];exact h3
 · show _ = some (Value.string ⟨(l.getD i aD).2.toArray⟩);rw [getD_get _ _ _ hi];exact h4
theorem anyBad_c (n:Nm) (q:Nat) (l:List Atr) (v:Value) (hl:l.length ≤ 1099511627776) (ha:∀ a ∈ l,a.2.length ≤ 1000000) (w:World) (hA:AtS w v l) (hq:B1 w q (.string ⟨n.toArray⟩)) :
 Calls Tryz.prog 94 #[v,.func (.func 95) #[] #[.pointer (some ⟨q,0,none⟩)]] w fun e w' => e = .returned (.bool (l.any (badA n)))∧Bl w w':=by
 obtain ⟨ao,cap,rfl,hA⟩:=hA;rw [← any_range (badA n) l aD];refine containsF_A _ _ cf_bad l.length cap ao _ _ (fun i => badA n (l.getD i aD)) hl w (ats_hA (cap:=cap) hA rfl) (fun i hi W hb => ?_);exact badA_c n (l.getD i aD) q (by rw [getD_get _ _ _ hi];exact ha _ (List.getElem_mem hi)) W (hq.of_bl hb)
theorem hasOne_c (s:Nm) (a:Atr) (q:Nat) (w:World) (hq:B1 w q (.string ⟨s.toArray⟩)) :
 Calls Tryz.prog 132 #[atV a,.pointer (some ⟨q,0,none⟩)] w fun e w' => e = .returned (.bool (decide (a.1 = s)))∧Bl w w':=by
 obtain ⟨x,y⟩:=a;obtain ⟨hql,hqc⟩:=hq;unfold atV;go_enter Tryz.func132,Tryz.ntmps132;go_wp2;go_ret;exact ⟨ret_bool (by rw [Bool.eq_iff_iff,beq_iff_eq];exact decide_eq_true_iff.symm),(Bl.refl _).alloc _⟩
theorem has_c (l:List Atr) (v:Value) (s:Nm) (hl:l.length ≤ 1099511627776) (w:World) (hA:AtS w v l) :
 Calls Tryz.prog 99 #[v,.string ⟨s.toArray⟩] w fun e w' => e = .returned (.bool (l.any fun a => decide (a.1 = s)))∧Bl w w':=by
 have hA1:=hA.of_bl ((Bl.refl _).alloc (.cells #[.string ⟨s.toArray⟩] 9));obtain ⟨ao,cap,rfl,hA1⟩:=hA1;have CC:=Lib.hid (containsF_A _ #[.pointer (some ⟨w.heap.size,0,none⟩)] cf_has l.length cap ao _ _ (fun i => decide ((l.getD i aD).1 = s)) hl _ (ats_hA (cap:=cap) hA1 rfl) (fun i _ W hb => hasOne_c s (l.getD i aD) w.heap.size W (B1.of_bl ⟨by simp,by simp⟩ hb)));rw [any_range (fun a:Atr => decide (a.1 = s)) l aD] at CC;clear hA hA1;go_enter Tryz.func99,Tryz.ntmps99;go_wp2_with (go_at_call 94; (with_reducible refine CC.out.mono ?_);rintro e w1 ⟨rfl,hb1⟩);go_ret;exact ⟨rfl,((Bl.refl _).alloc _).trans hb1⟩
end Go.Proofs.YthnpljkekhieiaaGreatDoor

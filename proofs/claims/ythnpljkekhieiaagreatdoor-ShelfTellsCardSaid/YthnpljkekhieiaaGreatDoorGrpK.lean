/- Signs that are put are taken as they were: plain laws. · Tokens: what is printed is read as it was; what is read is right: plain laws. · Tokens: Check of the program. · Trees: Of. -/
import Derived.Test.YthnpljkekhieiaaGreatDoorGrpC
import Derived.Test.YthnpljkekhieiaaGreatDoorGrpJ
import Derived.Test.YthnpljkekhieiaaGreatDoorTreM
set_option maxRecDepth 100000
set_option maxHeartbeats 4000000
namespace Go.Proofs.YthnpljkekhieiaaGreatDoor
open Go.RowKit
theorem atEF_cons {p:List Atr} {a:Atr} {l:List Atr} (h:atEF p (a :: l) = 0):isNm a.1 = true∧(p.any fun x => x.1 == a.1) = false∧atEF (p ++ [a]) l = 0:=by
 unfold atEF at h;cases h1:isNm a.1
 · rw [h1] at h;simp at h
 · rw [h1] at h;simp only [Bool.true_eq_false,if_false] at h;split at h
   · simp at h
   · rename_i h2;exact ⟨rfl,Bool.eq_false_iff.2 h2,h⟩
theorem tkE_cases {t:Tok} (h:tkE t = 0):(∃ x,x ≠ []∧t = (1,[],[],x)) ∨ (∃ n al,isNm n = true∧atE al = 0∧t = (2,n,al,[])) ∨ (∃ n,isNm n = true∧t = (3,n,[],[])):=by
 obtain ⟨k,n,al,x⟩:=t;unfold tkE at h;simp only [] at h;split at h
 · simp at h
 rename_i h1;split at h
 · simp at h
 rename_i h2;simp only [not_or,not_and,Decidable.not_not,ne_eq] at h2;obtain ⟨h2,h3,h4⟩:=h2;split at h
 · rename_i h5;subst h5;obtain ⟨rfl,rfl,hx⟩:=h2 rfl;exact Or.inl ⟨x,hx,rfl⟩
 rename_i h5;have hx:=h3 h5;split at h
 · simp at h
 rename_i h6;have h6:isNm n = true:=by simpa using h6
 have:k = 2 ∨ k = 3:=by omega
 rcases this with rfl | rfl
 · exact Or.inr (Or.inl ⟨n,al,h6,h,by rw [hx]⟩)
 · exact Or.inr (Or.inr ⟨n,h6,by rw [hx,h4 rfl]⟩)
def lastK (l:List Tok):Int:=match l.getLast? with | some t => t.1 | none => 0
theorem lastK_snoc (l:List Tok) (t:Tok):lastK (l ++ [t]) = t.1:=by simp [lastK]
theorem tkEF_snoc (l:List Tok) (t:Tok):∀ k:Int,tkEF k l = 0 → tkE t = 0 → ¬(t.1 = 1∧(if l = [] then k else lastK l) = 1) → tkEF k (l ++ [t]) = 0:=by
 induction l with
 | nil =>
   intro k _ ht hk;simp only [List.nil_append,tkEF,ht,ne_eq,not_true,if_false];rw [if_pos rfl] at hk;rw [if_neg hk]
 | cons a l ih =>
   intro k h ht hk;simp only [List.cons_append];unfold tkEF at h ⊢;by_cases he:tkE a = 0
   · simp only [he,ne_eq,not_true,if_false] at h ⊢;by_cases hk2:a.1 = 1∧k = 1
     · rw [if_pos hk2] at h;simp at h
     · rw [if_neg hk2] at h ⊢;refine ih a.1 h ht ?_;rw [if_neg (by simp)] at hk;rintro ⟨h1,h2⟩;refine hk ⟨h1,?_⟩;cases l with
       | nil => simpa [lastK] using h2
       | cons b l => rw [if_neg (by simp)] at h2;simpa [lastK] using h2
   · simp only [he,ne_eq,not_false_eq_true,if_true] at h
def okT (l:List Tok):Prop:=tkEF 0 l = 0∧(l = [] ∨ lastK l ≠ 1)
theorem okT_flsh {l:List Tok} (h:okT l) (x:List UInt8):tkEF 0 (flsh x l) = 0:=by
 unfold flsh;split
 · exact h.1
 · rename_i hx;refine tkEF_snoc l _ 0 h.1 (by simp [tkE,hx]) ?_;rintro ⟨_,h2⟩;split at h2
   · exact absurd h2 (by decide)
   · rcases h.2 with h3 | h3
     · contradiction
     · exact h3 h2
theorem okT_tag {l:List Tok} (h:okT l) (x:List UInt8) (t:Tok) (ht:tkE t = 0) (hk:t.1 ≠ 1):okT (flsh x l ++ [t]) :=
 ⟨tkEF_snoc _ _ 0 (okT_flsh h x) ht (fun hh => hk hh.1),Or.inr (by rw [lastK_snoc];exact hk)⟩
theorem atEF_snoc (l:List Atr) (a:Atr) (ha:isNm a.1 = true):∀ p:List Atr,atEF p l = 0 → ((p ++ l).any fun x => x.1 == a.1) = false → atEF p (l ++ [a]) = 0:=by
 induction l with
 | nil =>
   intro p _ hd;rw [List.append_nil] at hd;simp only [List.nil_append,atEF,ha,Bool.true_eq_false,if_false,hd,Bool.false_eq_true]
 | cons b l ih =>
   intro p h hd;obtain ⟨h1,h2,h3⟩:=atEF_cons h;simp only [List.cons_append];unfold atEF;rw [h1,h2];simp only [Bool.true_eq_false,if_false,Bool.false_eq_true];exact ih _ h3 (by rw [List.append_assoc];simpa using hd)
theorem addA_ok {out:List Atr} (h:atE out = 0) (a:Atr):atE (addA out a) = 0:=by
 unfold addA;split
 · rename_i hh;simp only [Bool.and_eq_true,Bool.not_eq_true'] at hh;exact atEF_snoc out a hh.1 [] h (by simpa using hh.2)
 · exact h
theorem atF_ok (k:Nat):∀ (t:List UInt8) (out l:List Atr) (r:List UInt8),atE out = 0 → atF k t out = some (l,r) → atE l = 0:=by
 induction k with
 | zero => intro t out l r _ h;simp [atF] at h
 | succ k ih =>
   intro t out l r ho h;unfold atF at h;split at h
   · cases h
   · split at h
     · simp only [Option.some.injEq,Prod.mk.injEq] at h;obtain ⟨rfl,_⟩:=h;exact ho
     · split at h
       · cases h
       · exact ih _ _ _ _ (addA_ok ho _) h
theorem tagP_ok (r u:List UInt8) (t:Tok) (h:tagP r = some (some (some t,u))) (hn:isNm t.2.1 = true):tkE t = 0∧t.1 ≠ 1:=by
 unfold tagP at h;split at h
 · cases h
 · rename_i c s;split at h
   · cases e:atP ((c :: s).dropWhile tch) [] with
     | none => rw [e] at h;simp at h
     | some x =>
       rw [e] at h;simp only [Option.map_some,Option.some.injEq,Prod.mk.injEq] at h;obtain ⟨rfl,_⟩:=h;have ha:=atF_ok _ _ [] x.1 x.2 rfl e;simp only [] at hn;refine ⟨?_,by simp⟩;simp [tkE,hn,ha]
   split at h
   · cases e:cutS [62] (s.dropWhile tch) with
     | none => rw [e] at h;simp at h
     | some x =>
       rw [e] at h;simp only [Option.map_some,Option.some.injEq,Prod.mk.injEq] at h;obtain ⟨rfl,_⟩:=h;simp only [] at hn;refine ⟨?_,by simp⟩;simp [tkE,hn,atE,atEF]
   split at h
   · cases e:cutS [45,45,62] s with
     | none => rw [e] at h;simp at h
     | some x => rw [e] at h;simp at h
   split at h
   · cases e:cutS [62] (c :: s) with
     | none => rw [e] at h;simp at h
     | some x => rw [e] at h;simp at h
   · cases h
theorem flsh_len (x:List UInt8) (l:List Tok):(flsh x l).length ≤ l.length + (if x = [] then 0 else 1):=by
 unfold flsh;by_cases hx:x = []
 · subst hx;simp [Tk_nil]
 · rw [if_neg hx];split <;> simp
theorem tkF_right (k:Nat):∀ (s text:List UInt8) (out:List Tok),s.length ≤ k → okT out → tkEF 0 (tkF k s text out) = 0∧(tkF k s text out).length ≤ out.length + (if text = [] then 0 else 1) + s.length:=by
 induction k with
 | zero => intro s text out hs h;exact ⟨okT_flsh h text,by have:=flsh_len text out;simp only [tkF];omega⟩
 | succ k ih =>
   intro s text out hs h;cases s with
   | nil => exact ⟨okT_flsh h text,by have:=flsh_len text out;simp only [tkF];omega⟩
   | cons c r =>
     simp only [List.length_cons,Nat.add_le_add_iff_right] at hs ⊢;have h01:(if text = [] then 0 else 1) ≤ 1:=by split <;> omega
     unfold tkF;split
     · split
       · have:=ih r (text ++ [60]) out hs h;rw [if_neg (by simp)] at this;exact ⟨this.1,by omega⟩
       · refine ⟨okT_flsh h _,?_⟩;have:=flsh_len (text ++ 60 :: r) out;rw [if_neg (by simp)] at this;omega
       · rename_i u e;have hl:=tagP_len _ _ _ e;have:=ih u text out (by omega) h;exact ⟨this.1,by omega⟩
       · rename_i t u e;have hl:=tagP_len _ _ _ e;split
         · rename_i hn;have ht:=tagP_ok _ _ _ e hn;have h1:=ih u [] _ (by omega) (okT_tag h text t ht.1 ht.2);have h2:=flsh_len text out;rw [if_pos rfl] at h1;simp only [List.length_append,List.length_singleton] at h1;exact ⟨h1.1,by omega⟩
         · have:=ih u text out (by omega) h;exact ⟨this.1,by omega⟩
     · have:=ih r (text ++ [c]) out hs h;rw [if_neg (by simp)] at this;exact ⟨this.1,by omega⟩
theorem TokL_right (s:List UInt8):tkEF 0 (TokL s) = 0∧(TokL s).length ≤ s.length:=by
 have:=tkF_right s.length s [] [] (Nat.le_refl _) ⟨rfl,Or.inl rfl⟩;simpa [TokL,tkP] using this
theorem TokL_ck (s:List UInt8) (h:s.length ≤ 3000):ckE (TokL s) = 0:=by
 have:=TokL_right s;unfold ckE;rw [if_neg (by omega)];exact this.1
theorem token_c (base b:Nat) (P:Nat → Prop) (s:St) (t:Tok) (va:Value) (w:World) (hB:BdS w base b P s) (hbw:base ≤ w.heap.size) (hO:OkS s t.2.2.2.length) (ht:tkE t = 0) (hA:AtP w (· < base) va t.2.2.1) (hl:t.2.2.1.length ≤ 100000000) :
 Calls Tryz.prog 88 #[.pointer (some ⟨b,0,none⟩),.agg #[.int .i64 t.1,.string ⟨t.2.1.toArray⟩,va,.string ⟨t.2.2.2.toArray⟩]] w fun e w' => e = .returned (.tuple #[])∧(∃ P', BdS w' base b P' (stp s t))∧Below base w w':=by
 have hva:∃ a n c,va = .slice a n c:=by obtain ⟨a,c,e,-⟩:=hA;exact ⟨a,_,c,e⟩
 rcases tkE_cases ht with ⟨x,hx,rfl⟩ | ⟨n,al,hn,ha,rfl⟩ | ⟨n,hn,rfl⟩
 · exact token_c1 base b P s x va w hB hbw hO hva
 · exact token_c2 base b P s n al va w hB hbw ⟨hO.iv,hO.cnt,by have:=hO.txt;simpa using this⟩ ht hA hl
 · exact token_c3 base b P s n va w hB hbw ⟨hO.iv,hO.cnt,by have:=hO.txt;simpa using this⟩ hva
theorem BdS.start (w:World):BdS ((w.alloc (.cells #[.slice none 0 0] 83)).alloc (.cells #[.slice (some ⟨w.heap.size,0,none⟩) 1 1,.slice none 0 0] 110)) w.heap.size (w.heap.size + 1) (fun _ => False) ([],[]):=by
 refine ⟨w.heap.size,1,.slice none 0 0,[],.slice none 0 0,[],?_,?_,rfl,(fun i hi => absurd hi (by simp)),⟨[],NdO.nil _ _ _⟩,World.ownsRow_nil _ _ _ _,rfl,(fun p hp => by cases hp),(by simp),(fun a _ k _ e => by simp [Value.ownBlock] at e),(fun h => h),(fun h => h),(fun k e => by simp [Value.ownBlock] at e),(fun k h => False.elim h),Nat.le_succ _⟩
 · have:=heap_alloc_new (w.alloc (.cells #[.slice none 0 0] 83)) (.cells #[.slice (some ⟨w.heap.size,0,none⟩) 1 1,.slice none 0 0] 110);simpa using this
 · refine World.ownsRow.alloc ⟨by simp,.inr ⟨w.heap.size,1,#[.slice none 0 0],rfl,Nat.le_refl _,heap_alloc_new w _,Nat.le_refl _,by decide,rfl,rfl⟩⟩ _
theorem BdS.root {w:World} {base b:Nat} {P:Nat → Prop} {s:St} (h:BdS w base b P s) (h0:s.2 = []) :
 ∃ gn cn v,w.cell? ⟨b,0,none⟩ = some (.slice (some ⟨gn,0,none⟩) 1 cn)∧w.cell? ⟨gn,0,none⟩ = some v∧(∃ a n c,v = .slice a n c)∧∃ Q,NdS w Q v s.1:=by
 obtain ⟨gn,cn,vo,lv,v,oe,h⟩:=h;obtain ⟨r,f⟩:=s;simp only [] at h0;subst h0;have hl:lv = []:=List.eq_nil_of_length_eq_zero (by rw [h.len];rfl);subst hl;obtain ⟨c0,_,_,_⟩:=h.cells;obtain ⟨n0,_,_⟩:=h.last;obtain ⟨e0,h0⟩:=h.top;obtain ⟨ao,c,e,_⟩:=own_shp h0.row;exact ⟨gn,cn,v,c0,n0,⟨_,_,_,e⟩,_,h0.nds⟩
def txB (l:List Tok):Nat:=(l.flatMap (·.2.2.2)).length
theorem txB_app (a c:List Tok):txB (a ++ c) = txB a + txB c:=by unfold txB;rw [List.flatMap_append,List.length_append]
theorem txB_cons (t:Tok) (l:List Tok):txB (t :: l) = t.2.2.2.length + txB l:=by unfold txB;rw [List.flatMap_cons,List.length_append]
theorem of_c (l:List Tok) (v:Value) (w:World) (hT:TkS w v l) (ht:∀ t ∈ l,tkE t = 0) (hl:l.length ≤ 3000) (hx:txB l ≤ 1099511627776) (ha:∀ t ∈ l,t.2.2.1.length ≤ 100000000) :
 Calls Tryz.prog 69 #[v] w fun e w' => ∃ v', e = .returned v' ∧ (∃ Q,NdS w' Q v' (ofM l))∧Bl w w':=by
 obtain ⟨ao,cap,rfl,hT⟩:=hT;have hB0:=BdS.start w;have hOk:∀ k (hk:k < l.length),OkS ((l.take k).foldl stp ([],[])) l[k].2.2.2.length:=by
  intro k hk;have hs:∀ t ∈ l.take k,tkE t = 0:=fun t h => ht t (List.mem_of_mem_take h)
  refine ⟨iv_foldl _ (s:=([],[])) ⟨trivial,rfl,by simp [dpL]⟩ hs,?_,?_⟩
  · have:=foldl_cnt (l.take k) ([],[]);have e:cntS (([],[]):St) = 0:=rfl;have e2:(l.take k).length ≤ l.length:=List.length_take_le' _ _;omega
  · have:=(foldl_txt (l.take k) (s:=([],[])) ⟨fun c hc => by simp at hc,trivial⟩ hs).1;rw [this];have e:ntxS (([],[]):St) = []:=rfl;rw [e,List.nil_append];have h2:l = l.take k ++ l[k] :: l.drop (k + 1):=by rw [← List.drop_eq_getElem_cons hk,List.take_append_drop]
    have h3:txB l = txB (l.take k) + (l[k].2.2.2.length + txB (l.drop (k + 1))):=by
     conv => lhs;rw [h2]
     rw [txB_app,txB_cons]
    show txB (l.take k) + _ ≤ _;omega
 have HOK:=Lib.hid hOk;have HT:=Lib.hid ht;have HA:=Lib.hid ha;have HTK:=Lib.hid hT;have hIv:Iv (l.foldl stp ([],[])):=iv_foldl l (s:=([],[])) ⟨trivial,rfl,by simp [dpL]⟩ ht;have hCn:cntS (l.foldl stp ([],[])) ≤ 100000:=by
  have:=foldl_cnt l ([],[]);have e:cntS (([],[]):St) = 0:=rfl;omega
 have HCL:=Lib.hid (fun (P:Nat → Prop) (W:World) (hB:BdS W w.heap.size (w.heap.size + 1) P (l.foldl stp ([],[]))) (hb:Bl w W) => (by have:=close_c w.heap.size (w.heap.size + 1) P (l.foldl stp ([],[])) 0 W hB (Below.size hb) hIv hCn;rw [show ((0:Nat):Int) = 0 from rfl] at this;exact this:Calls Tryz.prog 89 #[.pointer (some ⟨w.heap.size + 1,0,none⟩),.int .i64 0] W fun e w' => e = .returned (.tuple #[])∧(∃ P', (∀ k,P k → P' k)∧BdS w' w.heap.size (w.heap.size + 1) P' (pops ((l.foldl stp ([],[])).2.length - 0) (l.foldl stp ([],[]))))∧Below w.heap.size W w' ∧ Still P W w'));clear hOk ht ha hT hIv hCn;go_enter Tryz.func69,Tryz.ntmps69;go_wp2;go_loopw [11] (fun i wr => ∃ (k:Nat) (P:Nat → Prop),k ≤ l.length∧i = .int .i64 k∧BdS wr w.heap.size (w.heap.size + 1) P ((l.take k).foldl stp ([],[]))∧Bl w wr) (fun i _ => l.length - (intOf i).toNat);case atStart => exact ⟨0,_,Nat.zero_le _,rfl,hB0,((Bl.refl _).alloc _).alloc _⟩
 case round =>
  obtain ⟨k,P,hk,rfl,hB,hb⟩:=hrel;by_cases hlt:k < l.length
  · obtain ⟨g,o,va,rfl,hg,h1,h2,h3,h4,h5,h6⟩:=HTK.out k hlt;have y1:=(hb.cells.1 g _ hg).trans h1;have y2:=(hb.cells.1 g _ hg).trans h2;have y3:=(hb.cells.1 g _ hg).trans h3;have y4:=(hb.cells.1 g _ hg).trans h4;have hA:=AtP.of h5 h6;have TC:=Lib.hid (fun (W:World) (hbW:Bl wr W) => token_c w.heap.size (w.heap.size + 1) P _ l[k] va W (hB.of_bl hbW) (Nat.le_trans (Below.size hb) (Below.size hbW)) (HOK.out k hlt) (HT.out _ (List.getElem_mem hlt)) (hA.still (Still.of_bl (hb.trans hbW))) (HA.out _ (List.getElem_mem hlt)));obtain ⟨a,n,c,rfl⟩:∃ a n c,va = .slice a n c:=by obtain ⟨a,c,e,-⟩:=hA;exact ⟨a,_,c,e⟩
    have HF:=Lib.hid (show (l.take (k + 1)).foldl stp ([],[]) = stp ((l.take k).foldl stp ([],[])) l[k] by rw [take_snoc l k hlt,List.foldl_append];rfl);have HB:=Lib.hid hb;clear h1 h2 h3 h4 h5 h6 hA hB hB0;go_wp2_with (go_at_call 88; (with_reducible refine (TC.out _ ((Bl.refl _).alloc _)).mono ?_);rintro e w2 ⟨rfl,⟨P2,hB2⟩,hb2⟩);go_roundw;case rel => exact ⟨k + 1,P2,by omega,by go_num,by rw [HF.out];exact hB2,Below.trans (HB.out.alloc _) hb2⟩
    case measure => simp [intOf];omega
  · have HE:=Lib.hid (show (l.take k).foldl stp ([],[]) = l.foldl stp ([],[]) by rw [List.take_of_length_le (by omega)]);rw [HE.out] at hB;have HB:=Lib.hid hB;have HBb:=Lib.hid hb;clear hB hB0 hb;go_wp2_with (go_at_call 89; (with_reducible refine (HCL.out _ _ HB.out HBb.out).mono ?_);rintro e w2 ⟨rfl,⟨P2,-,hB2⟩,hb2,-⟩;obtain ⟨gn,cn,vr,r0,r1,r2,Q,r3⟩:=hB2.root (List.eq_nil_of_length_eq_zero (by rw [pops_len];simp));have hblt:=hB2.blt;obtain ⟨va,vn,vc,rfl⟩:=r2;have HR:=Lib.hid r3;clear hB2 r3);go_ret;exact ⟨_,rfl,⟨Q,HR.out⟩,Below.trans HBb.out hb2⟩
end Go.Proofs.YthnpljkekhieiaaGreatDoor

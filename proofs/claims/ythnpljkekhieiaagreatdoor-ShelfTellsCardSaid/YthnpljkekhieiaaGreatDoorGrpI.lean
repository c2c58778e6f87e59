/- Tokens: a tag that closes. · Tokens: step. · Tokens: step: tags. · Tokens: step: what is passed. · Tokens: step whole; try; All; Read. · Tokens: All; Read. -/
import Derived.Test.YthnpljkekhieiaaGreatDoorGrpH
import Derived.Recover
import Derived.Test.YthnpljkekhieiaaGreatDoorGrpG
set_option maxRecDepth 100000
set_option maxHeartbeats 4000000
namespace Go.Proofs.YthnpljkekhieiaaGreatDoor
open Go.RowKit
theorem Rr.skip2 {w:World} {b K:Nat} {s t x:List UInt8} {c d:UInt8} {v:Value} (h:Rr w b s (c :: d :: t) x v) (hK:s.length - (c :: d :: t).length = K):Rr (w.setCell ⟨b,1,none⟩ (.int .i64 ((K:Int) + 2))) b s t x v:=by
 have hl:=h.len;simp only [List.length_cons] at hl hK;exact ⟨h.rk.seti (by omega),((List.suffix_cons d t).trans (List.suffix_cons c _)).trans h.sf⟩
theorem tag_close (b:Nat) (s t x:List UInt8) (c d:UInt8) (l:List Tok) (w:World) (hR:RT w b s (c :: d :: t) x l) (hs:s.length ≤ 1073741824) (hx:x.length ≤ 1073741824) (hl:l.length ≤ 1073741823) (hE:ES w) (hbE:1 < b) (hM:ML w) (hbM:0 < b) :
 Calls Tryz.prog 148 #[.pointer (some ⟨b,0,none⟩),.int .i64 3,.int .i64 2] w fun e w' =>
  StEnd w b s x l ((cutS [62] (t.dropWhile tch)).map fun u => if isNm (fold (t.takeWhile tch)) then (u,[],flsh x l ++ [(3,fold (t.takeWhile tch),[],[])]) else (u,x,l)) e w':=by
 obtain ⟨v,hR,hT⟩:=hR;obtain ⟨i0,hi,hz0,hz1,hz2⟩:=info_parts Tryz.infoTok;have hbw:=hR.rk.lt;obtain ⟨a0,a1,a2,a3,f0,f1,f2,f3⟩:=hR.rk.cells;obtain ⟨K,hK⟩:∃ K,s.length - (c :: d :: t).length = K:=⟨_,rfl⟩;rw [hK] at a1;have hlc:=hR.len;simp only [List.length_cons] at hlc;have hKb:(K:Int) + 2 ≤ (s.length:Int):=by simp only [List.length_cons] at hK;omega
 have hR0:=hR.skip2 hK;have hg0:=gb_set (b:=b) (gb_refl _ w) 1 (.int .i64 ((K:Int) + 2));have P1:=Lib.hid (pass_r _ tch do_t1 b s t x v _ hR0 (by omega));have hnl:(t.takeWhile tch).length ≤ t.length:=(List.takeWhile_prefix _).length_le;have FC:=Lib.hid (fun W => folded_c (t.takeWhile tch) (by omega) W);obtain ⟨n,hn⟩:∃ n,n = fold (t.takeWhile tch):=⟨_,rfl⟩;have hn20:n.length ≤ s.length:=by rw [hn,fold_len];omega
 have NC:=Lib.hid (fun W => name_c n (by omega) W);rw [← hn] at FC ⊢;clear hK hn;cases hat:cutS [62] (t.dropWhile tch) with
 | none =>
   have TC:=Lib.hid (fun W h1 h2 => to_no [62] (by simp) (by simp) 0 (by omega) b s (t.dropWhile tch) x v W h1 (by omega) h2 (by simpa using hat));clear hat;go_enter Tryz.func148,Tryz.ntmps148;go_wp2_with (first | (go_at_call 145; (with_reducible refine P1.out.mono ?_);clear P1;rintro e w1 ⟨rfl,hR1,hg1⟩) | (go_at_call 162; (with_reducible refine (FC.out _).mono ?_);rintro e w2 ⟨rfl,hb2⟩;have hR2:=hR1.of_bl hb2;have hE2:=((hE.of_gb hg0 hbE).of_gb hg1 hbE).of_bl hb2;have hM2:=((hM.of_gb hg0 hbM).of_gb hg1 hbM).of_bl hb2) | (go_at_call 149;refine (TC.out _ (hR2.of_bl ((Bl.refl _).alloc _)) (hM2.of_bl ((Bl.refl _).alloc _))).mono ?_;rintro e w3 ⟨rfl,hq3⟩));all_goals have hgz:=gb_trans (gb_trans hg0 hg1) (gb_trans (gb_bl (b:=some b) (hb2.alloc _)) (gb_qt hq3))
   all_goals exact ⟨rfl,below_gb hgz (Nat.le_refl _) (Nat.le_of_lt hbw),FrT.of_gb hgz,rfl,_,v,(hR2.of_bl ((Bl.refl _).alloc _)).of_bl hq3.bl,hT.of_gb hgz (Nat.lt_succ_self _)⟩
 | some u =>
   have TC:=Lib.hid (fun W h1 h2 => to_yes [62] (by simp) (by simp) 0 (by omega) b s (t.dropWhile tch) x u v W h1 (by omega) h2 (by simpa using hat));clear hat;cases hN:isNm n
   · rw [hN] at NC;clear hN;go_enter Tryz.func148,Tryz.ntmps148;go_wp2_with (first | (go_at_call 145; (with_reducible refine P1.out.mono ?_);clear P1;rintro e w1 ⟨rfl,hR1,hg1⟩) | (go_at_call 162; (with_reducible refine (FC.out _).mono ?_);rintro e w2 ⟨rfl,hb2⟩;have hR2:=hR1.of_bl hb2;have hE2:=((hE.of_gb hg0 hbE).of_gb hg1 hbE).of_bl hb2;have hM2:=((hM.of_gb hg0 hbM).of_gb hg1 hbM).of_bl hb2) | (go_at_call 149;refine (TC.out _ (hR2.of_bl ((Bl.refl _).alloc _)) (hM2.of_bl ((Bl.refl _).alloc _))).mono ?_;rintro e w3 ⟨rfl,hR4,hg3⟩;have hbq:b < w2.heap.size:=hR2.rk.lt;have hq4:=(show Tkb (w2.alloc (.cells #[.int .i64 3,.string ⟨n.toArray⟩,.slice none 0 0,.string ⟨#[]⟩] 104)) w2.heap.size 3 n (.slice none 0 0) from heap_alloc_new _ _).of_gb hg3 (by simp;omega);obtain ⟨z0,z1,z2,z3,z4,z5,z6,z7⟩:=hq4.cells;have hg4:=gb_trans (gb_trans hg0 hg1) (gb_trans (gb_bl (b:=some b) (hb2.alloc _)) hg3);have hT4:=hT.of_gb hg4 (Nat.lt_succ_self _);have hE4:=hE.of_gb hg4 hbE) | (go_at_call 166; (with_reducible refine (NC.out _).mono ?_);rintro e w4 ⟨rfl,rfl⟩));go_end0;exact ⟨below_gb hg4 (Nat.le_refl _) (Nat.le_of_lt hbw),FrT.of_gb hg4,rfl,v,hR4,hT4⟩
   · rw [hN] at NC;clear hN;have hvlt:=hT.lt;have KC:=Lib.hid (fun W h1 h2 h3 => flush_c b s u x l v W h1 h2 hx (by omega) h3);go_enter Tryz.func148,Tryz.ntmps148;go_wp2_with (first | (go_at_call 145; (with_reducible refine P1.out.mono ?_);clear P1;rintro e w1 ⟨rfl,hR1,hg1⟩) | (go_at_call 162; (with_reducible refine (FC.out _).mono ?_);rintro e w2 ⟨rfl,hb2⟩;have hR2:=hR1.of_bl hb2;have hE2:=((hE.of_gb hg0 hbE).of_gb hg1 hbE).of_bl hb2;have hM2:=((hM.of_gb hg0 hbM).of_gb hg1 hbM).of_bl hb2) | (go_at_call 149;refine (TC.out _ (hR2.of_bl ((Bl.refl _).alloc _)) (hM2.of_bl ((Bl.refl _).alloc _))).mono ?_;rintro e w3 ⟨rfl,hR4,hg3⟩;have hbq:b < w2.heap.size:=hR2.rk.lt;have hq4:=(show Tkb (w2.alloc (.cells #[.int .i64 3,.string ⟨n.toArray⟩,.slice none 0 0,.string ⟨#[]⟩] 104)) w2.heap.size 3 n (.slice none 0 0) from heap_alloc_new _ _).of_gb hg3 (by simp;omega);obtain ⟨z0,z1,z2,z3,z4,z5,z6,z7⟩:=hq4.cells;have hg4:=gb_trans (gb_trans hg0 hg1) (gb_trans (gb_bl (b:=some b) (hb2.alloc _)) hg3);have hT4:=hT.of_gb hg4 (Nat.lt_succ_self _);have hE4:=hE.of_gb hg4 hbE) | (go_at_call 166; (with_reducible refine (NC.out _).mono ?_);rintro e w4 ⟨rfl,rfl⟩) | (go_at_call 91; (with_reducible refine (KC.out _ hR4 hT4 hE4).mono ?_);clear a0 a1 a2 a3 f0 f1 f2 f3 z0 z1 z2 z3 z4 z5 z6 z7;rintro e w5 ⟨rfl,⟨v5,hR5,hT5⟩,hF5⟩));have hwq:w.heap.size ≤ w2.heap.size:=Nat.le_trans (gb_trans hg0 hg1).size (Below.size hb2);have hq5:=hq4.of_fr2 hF5 (Ne.symm (Nat.ne_of_lt hbq)) (fun e => by have:=(hvlt _ e.symm).2;omega);obtain ⟨a0,a1,a2,a3,f0,f1,f2,f3⟩:=hR5.rk.cells;obtain ⟨z0,z1,z2,z3,z4,z5,z6,z7⟩:=hq5.cells;have hfl:(flsh x l).length ≤ l.length + 1:=by unfold flsh;split <;> simp
     have hl5:=hT5;obtain ⟨ents,e1,e2,e3⟩:=hl5;have hel:ents.length ≤ (flsh x l).length:=by rw [← e1];simp
     have hbw5:=hR5.rk.lt;have hq5l:=hq5.lt;have hB5:=hF5.below (fun j hj => by have:=(hvlt j hj).1;omega) (Nat.le_of_lt hR4.rk.lt)
     go_region_law (refine step_append_own rfl (.tmp 36) (.tmp 38) 87 rfl (b + 1) 104 i0 (.agg #[.int .i64 0,.string ⟨#[]⟩,.slice none 0 0,.string ⟨#[]⟩]) 4 64 Tryz.underlying87 hi hz0 hz1 hz2 rfl (by decide) v5 ents.length (tkC ents) (by simp [Act.eval]) (own_bl e2 Bl.z) ⟨w5.heap.size,0,none⟩ 1 1 [.int .i64 3,.string ⟨n.toArray⟩,.slice none 0 0,.string ⟨#[]⟩] (by simp [Act.eval]) rfl (new_cells w5 #[.int .i64 3,.string ⟨n.toArray⟩,.slice none 0 0,.string ⟨#[]⟩] _) (by simp [Value.oneCell']) (by unfold maxLen;omega) (by omega) (by simp;omega) ?_;intro v' wz hown' hgrow;obtain ⟨gv,cv,rfl⟩:=own_shape hown'; obtain ⟨mz1,mz2,mz3,mz4⟩:=tok_meet (t:=(3,n,[],[])) hR5 e1 e2 e3 (AtO.nil _ _) hown' hgrow Bl.z;clear hown' hgrow a0 a1 a2 a3 f0 f1 f2 f3;obtain ⟨a0,a1,a2,a3,f0,f1,f2,f3⟩:=mz2.rk.cells)
     all_goals
      go_wp2;go_end0;exact ⟨((below_gb (b:=b) hg4 (Nat.le_refl _) (Nat.le_of_lt hbw)).trans hB5).trans (mz3.setCell (Nat.le_refl _) _),(((FrT.of_gb hg4).trans (FrT.of_fr2 hT4 hF5)).trans mz4).trans (FrT.of_gb (gb_set (gb_refl _ _) _ _)),rfl,_,⟨mz2.rk.set3 _,mz2.sf⟩,mz1.of_gb (gb_set (gb_refl _ _) _ _) (Nat.lt_succ_self _)⟩
def stP (t x:List UInt8) (l:List Tok):Option (List UInt8 × List UInt8 × List Tok) :=
 match t with
 | [] => some ([],x,l)
 | c :: r =>
   if c = 60 then match tagP r with
    | none => some (r,x ++ [60],l)
    | some none => none
    | some (some (none,u)) => some (u,x,l)
    | some (some (some k,u)) => if isNm k.2.1 then some (u,[],flsh x l ++ [k]) else some (u,x,l)
   else some ((c :: r).dropWhile not60,x ++ (c :: r).takeWhile not60,l)
theorem not60_iff (c:UInt8):not60 c = true ↔ c ≠ 60:=by
 have h1:c.toNat = 60 ↔ c = 60:=⟨fun h => UInt8.toNat_inj.1 h,fun h => by rw [h];rfl⟩;simp [not60,h1]
theorem tw_not60 (t:List UInt8):60 ∉ t.takeWhile not60:=by
 intro h;have:=mem_tw h;exact absurd this (by decide)
theorem tkP_st (t x:List UInt8) (l:List Tok) (ht:t ≠ []):tkP t x l = (match stP t x l with | none => flsh (x ++ t) l | some (u,x', l') => tkP u x' l'):=by
 cases t with
 | nil => exact absurd rfl ht
 | cons c r =>
   unfold stP;simp only [];by_cases hc:c = 60
   · subst hc;rw [if_pos rfl];cases h:tagP r with
     | none => exact tkP_lone r x l h
     | some o =>
       cases o with
       | none => exact tkP_open r x l h
       | some p =>
         obtain ⟨k,u⟩:=p;cases k with
         | none => exact tkP_skip r u x l h
         | some k =>
           simp only [];cases hn:isNm k.2.1
           · simp only [Bool.false_eq_true,if_false];exact tkP_tagno r u x k l h hn
           · simp only [if_true];exact tkP_tag r u x k l h hn
   · rw [if_neg hc];have:=tkP_run ((c :: r).takeWhile not60) ((c :: r).dropWhile not60) x l (tw_not60 _);rw [List.takeWhile_append_dropWhile] at this;exact this
theorem tagP_len2 (t:List UInt8) (k:Tok) (r:List UInt8) (h:tagP t = some (some (some k,r))):r.length + 2 ≤ t.length:=by
 cases t with
 | nil => cases h
 | cons c s =>
   rw [tagP_cons] at h;split at h
   · rename_i hc;cases e:atP ((c :: s).dropWhile tch) [] with
     | none => rw [e] at h;simp at h
     | some x =>
       rw [e] at h;simp only [Option.map_some,Option.some.injEq,Prod.mk.injEq] at h;obtain ⟨_,rfl⟩:=h;have h1:=atF_len _ _ _ _ _ e;have hw:tch c = true:=by
        have:(97 ≤ c.toNat∧c.toNat ≤ 122) ∨ (65 ≤ c.toNat∧c.toNat ≤ 90):=by
         simp only [ltr,lwr,Bool.or_eq_true,Bool.and_eq_true,decide_eq_true_eq] at hc;omega
        simp [tch,wht];omega
       rw [List.dropWhile_cons_of_pos hw] at h1;have h2:=dw_len (p:=tch) s;simp only [List.length_cons];omega
   split at h
   · rename_i hc;cases e:cutS [62] (s.dropWhile tch) with
     | none => rw [e] at h;simp at h
     | some x =>
       rw [e] at h;simp only [Option.map_some,Option.some.injEq,Prod.mk.injEq] at h;obtain ⟨_,rfl⟩:=h;have h1:=cutS_len [62] (by simp) _ _ e;have h2:=dw_len (p:=tch) s;simp only [List.length_cons];omega
   split at h
   · cases e:cutS [45,45,62] s with
     | none => rw [e] at h;simp at h
     | some x => rw [e] at h;simp at h
   split at h
   · cases e:cutS [62] (c :: s) with
     | none => rw [e] at h;simp at h
     | some x => rw [e] at h;simp at h
   · cases h
theorem stP_len (t x:List UInt8) (l:List Tok) (ht:t ≠ []) (u x':List UInt8) (l':List Tok) (h:stP t x l = some (u,x', l')):u.length < t.length∧x'.length + u.length ≤ x.length + t.length∧l'.length + u.length ≤ l.length + t.length:=by
 cases t with
 | nil => exact absurd rfl ht
 | cons c r =>
   unfold stP at h;simp only [] at h;have hfl:(flsh x l).length ≤ l.length + 1:=by unfold flsh;split <;> simp
   split at h
   · cases e:tagP r with
     | none =>
       rw [e] at h;simp only [Option.some.injEq,Prod.mk.injEq] at h;obtain ⟨rfl,rfl,rfl⟩:=h;simp;omega
     | some o =>
       rw [e] at h;cases o with
       | none => simp at h
       | some p =>
         obtain ⟨k,u'⟩:=p;have hl:=tagP_len _ _ _ e;cases k with
         | none =>
           simp only [Option.some.injEq,Prod.mk.injEq] at h;obtain ⟨rfl,rfl,rfl⟩:=h;simp only [List.length_cons];omega
         | some k =>
           simp only [] at h;have hl2:=tagP_len2 _ _ _ e;split at h
           · simp only [Option.some.injEq,Prod.mk.injEq] at h;obtain ⟨rfl,rfl,rfl⟩:=h;simp only [List.length_cons,List.length_append,List.length_nil];omega
           · simp only [Option.some.injEq,Prod.mk.injEq] at h;obtain ⟨rfl,rfl,rfl⟩:=h;simp only [List.length_cons];omega
   · rename_i hc;simp only [Option.some.injEq,Prod.mk.injEq] at h;obtain ⟨rfl,rfl,rfl⟩:=h;have h1:=congrArg List.length (List.takeWhile_append_dropWhile (p:=not60) (l:=c :: r));have h2:(c :: r).takeWhile not60 = c :: r.takeWhile not60:=by rw [List.takeWhile_cons,if_pos ((not60_iff c).2 hc)]
     rw [List.length_append] at h1;rw [h2] at h1 ⊢;simp only [List.length_cons,List.length_append] at h1 ⊢;omega
theorem pre_one (p:UInt8) (q r:List UInt8):pre (p :: q) (p :: r) = pre q r:=by simp [pre]
theorem pre_ne {p c:UInt8} (q r:List UInt8) (h:c ≠ p):pre (p :: q) (c :: r) = false:=by
 have:(p == c) = false:=beq_false_of_ne (Ne.symm h);simp only [pre,List.isPrefixOf,this,Bool.false_and]
theorem Bl.to_below {w w':World} (h:Bl w w') (b:Nat) (hb:b ≤ w.heap.size):Below b w w':=Below.mono h hb
def opR (r x:List UInt8) (l:List Tok):Option (List UInt8 × List UInt8 × List Tok):=(atP (r.dropWhile tch) []).map fun y => if isNm (fold (r.takeWhile tch)) then (y.2,[],flsh x l ++ [(2,fold (r.takeWhile tch),y.1,[])]) else (y.2,x,l)
def clR (r x:List UInt8) (l:List Tok):Option (List UInt8 × List UInt8 × List Tok):=(cutS [62] (r.dropWhile tch)).map fun u => if isNm (fold (r.takeWhile tch)) then (u,[],flsh x l ++ [(3,fold (r.takeWhile tch),[],[])]) else (u,x,l)
theorem letter1 (b:Nat) (s t x:List UInt8) (v:Value) (w:World) (hR:Rr w b s t x v) (hs:s.length ≤ 1099511627776) :
 Calls Tryz.prog 147 #[.pointer (some ⟨b,0,none⟩),.int .i64 1] w fun e w' => e = .returned (.bool (hd ltr (t.drop 1)))∧Qt w w':=letterAt_r 1 (by omega) b s t x v w hR hs
theorem letter2 (b:Nat) (s t x:List UInt8) (v:Value) (w:World) (hR:Rr w b s t x v) (hs:s.length ≤ 1099511627776) :
 Calls Tryz.prog 147 #[.pointer (some ⟨b,0,none⟩),.int .i64 2] w fun e w' => e = .returned (.bool (hd ltr (t.drop 2)))∧Qt w w':=letterAt_r 2 (by omega) b s t x v w hR hs
theorem step_text (b:Nat) (s t x:List UInt8) (l:List Tok) (v:Value) (w:World) (hR:Rr w b s t x v) (hT:TkO w (b + 1) v l) (hs:s.length ≤ 1073741824) (hx:x.length ≤ 1073741824) (h1:pre [60] t = false) :
 Calls Tryz.prog 127 #[.pointer (some ⟨b,0,none⟩)] w fun e w' => StEnd w b s x l (some (t.dropWhile not60,x ++ t.takeWhile not60,l)) e w':=by
 have hbw:=hR.rk.lt;have BG:=Lib.hid (fun p W h => begins_r p b s t x v W h (by omega));have hRq:=hR;have hQ:=Bl.refl w;have hxl:(t.takeWhile not60).length ≤ s.length:=Nat.le_trans (List.takeWhile_prefix _).length_le hR.len;have PC:=Lib.hid (fun W h => pass_r _ not60 do_s1 b s t x v W h (by omega));go_enter Tryz.func127,Tryz.ntmps127;go_wp2_with (first | (go_at_call 144;refine (BG.out _ _ hRq).mono ?_;rintro e wq ⟨rfl,hqq⟩;replace hRq:=hRq.of_bl hqq.bl;replace hQ:=hQ.trans hqq.bl));obtain ⟨a0,a1,a2,a3,f0,f1,f2,f3⟩:=hRq.rk.cells;go_region_with (first | (go_at_call 145; (with_reducible refine (PC.out _ (hRq.of_bl Bl.z)).mono ?_);rintro e w1 ⟨rfl,hR1,hg1⟩;clear a0 a1 a2 a3 f0 f1 f2 f3;obtain ⟨a0,a1,a2,a3,f0,f1,f2,f3⟩:=hR1.rk.cells));all_goals
  go_wp2;go_end0;have hgw:=gb_set (gb_trans (gb_bl (b:=some b) (hQ.trans Bl.z)) hg1) 2 (.string ⟨(x ++ t.takeWhile not60).toArray⟩);exact ⟨below_gb hgw (Nat.le_refl _) (Nat.le_of_lt hbw),FrT.of_gb hgw,rfl,v,⟨hR1.rk.set2 _,hR1.sf⟩,hT.of_gb hgw (Nat.lt_succ_self _)⟩
theorem step_lone (b:Nat) (s t x:List UInt8) (l:List Tok) (v:Value) (w:World) (hR:Rr w b s t x v) (hT:TkO w (b + 1) v l) (hs:s.length ≤ 1073741824) (hx:x.length ≤ 1073741824) (_hl:l.length ≤ 1073741823) (_hE:ES w) (_hbE:1 < b) (_hM:ML w) (_hbM:0 < b) (c:UInt8) (r:List UInt8) (HT:Hid (t = c :: r))
 (h1:pre [60] t = true) (h2:pre [60,47] t = false) (h3:pre [60,33,45,45] t = false) (h4:pre [60,33] t = false) (h5:pre [60,63] t = false) (h6:hd ltr (List.drop 1 t) = false) :
 Calls Tryz.prog 127 #[.pointer (some ⟨b,0,none⟩)] w fun e w' => StEnd w b s x l (some (r,x ++ [60],l)) e w':=by
 have hbw:=hR.rk.lt;have BG:=Lib.hid (fun p W h => begins_r p b s t x v W h (by omega));have L1:=Lib.hid (fun W h => letter1 b s t x v W h (by omega));have L2:=Lib.hid (fun W h => letter2 b s t x v W h (by omega));have hRq:=hR;have hQ:=Bl.refl w;rw [List.drop_one] at h6 L1;obtain ⟨K,hK⟩:∃ K,s.length - (c :: r).length = K:=⟨_,rfl⟩;have HK:=Lib.hid (show s.length - t.length = K by rw [HT.out];exact hK);have hlc:=hR.len;rw [HT.out] at hlc;have hKb:(K:Int) + 1 ≤ (s.length:Int):=by simp only [List.length_cons] at hK hlc;omega
 have HSK:=Lib.hid (fun W (h:Rr W b s t (x ++ [60]) v) => (HT.out ▸ h:Rr W b s (c :: r) (x ++ [60]) v).skip hK);clear hK hlc;go_enter Tryz.func127,Tryz.ntmps127;go_wp2_with (first | (go_at_call 144; (with_reducible refine (BG.out _ _ hRq).mono ?_);rintro e wq ⟨rfl,hqq⟩;replace hRq:=hRq.of_bl hqq.bl;replace hQ:=hQ.trans hqq.bl;have hRTq:RT _ b s t x l:=⟨v,hRq,hT.of_bl hQ⟩; (try clear a0 a1 a2 a3 f0 f1 f2 f3);obtain ⟨a0,a1,a2,a3,f0,f1,f2,f3⟩:=hRq.rk.cells;rw [HK.out] at a1) | (go_at_call 147; (with_reducible refine (L1.out _ hRq).mono ?_);rintro e wq ⟨rfl,hqq⟩;replace hRq:=hRq.of_bl hqq.bl;replace hQ:=hQ.trans hqq.bl;have hRTq:RT _ b s t x l:=⟨v,hRq,hT.of_bl hQ⟩; (try clear a0 a1 a2 a3 f0 f1 f2 f3);obtain ⟨a0,a1,a2,a3,f0,f1,f2,f3⟩:=hRq.rk.cells;rw [HK.out] at a1) | (go_at_call 147; (with_reducible refine (L2.out _ hRq).mono ?_);rintro e wq ⟨rfl,hqq⟩;replace hRq:=hRq.of_bl hqq.bl;replace hQ:=hQ.trans hqq.bl;have hRTq:RT _ b s t x l:=⟨v,hRq,hT.of_bl hQ⟩; (try clear a0 a1 a2 a3 f0 f1 f2 f3);obtain ⟨a0,a1,a2,a3,f0,f1,f2,f3⟩:=hRq.rk.cells;rw [HK.out] at a1));go_end0;have hR2:Rr _ b s t (x ++ [60]) v:=⟨hRq.rk.set2 (x ++ [60]),hRq.sf⟩;have hgw:=gb_set (gb_set (gb_bl (b:=some b) hQ) 2 (.string ⟨(x ++ [60]).toArray⟩)) 1 (.int .i64 ((K:Int) + 1));exact ⟨below_gb hgw (Nat.le_refl _) (Nat.le_of_lt hbw),FrT.of_gb hgw,rfl,v,HSK.out _ hR2,hT.of_gb hgw (Nat.lt_succ_self _)⟩
theorem step_open (b:Nat) (s t x:List UInt8) (l:List Tok) (v:Value) (w:World) (hR:Rr w b s t x v) (hT:TkO w (b + 1) v l) (hs:s.length ≤ 1073741824) (hx:x.length ≤ 1073741824) (hl:l.length ≤ 1073741823) (hE:ES w) (hbE:1 < b) (_hM:ML w) (_hbM:0 < b) (c:UInt8) (r:List UInt8) (HT:Hid (t = c :: r))
 (h1:pre [60] t = true) (h6:hd ltr (List.drop 1 t) = true) :
 Calls Tryz.prog 127 #[.pointer (some ⟨b,0,none⟩)] w fun e w' => StEnd w b s x l (opR r x l) e w':=by
 have hbw:=hR.rk.lt;have BG:=Lib.hid (fun p W h => begins_r p b s t x v W h (by omega));have L1:=Lib.hid (fun W h => letter1 b s t x v W h (by omega));have L2:=Lib.hid (fun W h => letter2 b s t x v W h (by omega));have hRq:=hR;have hQ:=Bl.refl w;rw [List.drop_one] at h6 L1;have TG:=Lib.hid (show ∀ W,RT W b s t x l → ES W → Calls Tryz.prog 148 #[.pointer (some ⟨b,0,none⟩),.int .i64 2,.int .i64 1] W fun e w' => StEnd W b s x l (opR r x l) e w' from fun W h1 h2 => tag_open b s r x c l W (HT.out ▸ h1) hs hx hl h2 hbE);cases hO:opR r x l with
 | none =>
   rw [hO] at TG;clear hO;go_enter Tryz.func127,Tryz.ntmps127;go_wp2_with (first | (go_at_call 144; (with_reducible refine (BG.out _ _ hRq).mono ?_);rintro e wq ⟨rfl,hqq⟩;replace hRq:=hRq.of_bl hqq.bl;replace hQ:=hQ.trans hqq.bl;have hRTq:RT _ b s t x l:=⟨v,hRq,hT.of_bl hQ⟩) | (go_at_call 147; (with_reducible refine (L1.out _ hRq).mono ?_);rintro e wq ⟨rfl,hqq⟩;replace hRq:=hRq.of_bl hqq.bl;replace hQ:=hQ.trans hqq.bl;have hRTq:RT _ b s t x l:=⟨v,hRq,hT.of_bl hQ⟩) | (go_at_call 147; (with_reducible refine (L2.out _ hRq).mono ?_);rintro e wq ⟨rfl,hqq⟩;replace hRq:=hRq.of_bl hqq.bl;replace hQ:=hQ.trans hqq.bl;have hRTq:RT _ b s t x l:=⟨v,hRq,hT.of_bl hQ⟩) | (go_at_call 148; (with_reducible refine (TG.out _ hRTq (hE.of_bl hQ)).mono ?_);rintro e wz ⟨hBz,hFz,rfl,hz⟩));exact ⟨rfl,(hQ.to_below b (Nat.le_of_lt hbw)).trans hBz,(FrT.of_gb (gb_bl hQ)).trans hFz,rfl,hz⟩
 | some q =>
   obtain ⟨u,x', l'⟩:=q;rw [hO] at TG;clear hO;go_enter Tryz.func127,Tryz.ntmps127;go_wp2_with (first | (go_at_call 144; (with_reducible refine (BG.out _ _ hRq).mono ?_);rintro e wq ⟨rfl,hqq⟩;replace hRq:=hRq.of_bl hqq.bl;replace hQ:=hQ.trans hqq.bl;have hRTq:RT _ b s t x l:=⟨v,hRq,hT.of_bl hQ⟩) | (go_at_call 147; (with_reducible refine (L1.out _ hRq).mono ?_);rintro e wq ⟨rfl,hqq⟩;replace hRq:=hRq.of_bl hqq.bl;replace hQ:=hQ.trans hqq.bl;have hRTq:RT _ b s t x l:=⟨v,hRq,hT.of_bl hQ⟩) | (go_at_call 147; (with_reducible refine (L2.out _ hRq).mono ?_);rintro e wq ⟨rfl,hqq⟩;replace hRq:=hRq.of_bl hqq.bl;replace hQ:=hQ.trans hqq.bl;have hRTq:RT _ b s t x l:=⟨v,hRq,hT.of_bl hQ⟩) | (go_at_call 148; (with_reducible refine (TG.out _ hRTq (hE.of_bl hQ)).mono ?_);rintro e wz ⟨hBz,hFz,rfl,hz⟩));go_end0;exact ⟨(hQ.to_below b (Nat.le_of_lt hbw)).trans hBz,(FrT.of_gb (gb_bl hQ)).trans hFz,rfl,hz⟩
theorem step_close (b:Nat) (s t x:List UInt8) (l:List Tok) (v:Value) (w:World) (hR:Rr w b s t x v) (hT:TkO w (b + 1) v l) (hs:s.length ≤ 1073741824) (hx:x.length ≤ 1073741824) (hl:l.length ≤ 1073741823) (hE:ES w) (hbE:1 < b) (hM:ML w) (hbM:0 < b) (c d:UInt8) (r:List UInt8) (HT:Hid (t = c :: d :: r))
 (h1:pre [60] t = true) (h2:pre [60,47] t = true) (h6:hd ltr (List.drop 1 t) = false) (h7:hd ltr (List.drop 2 t) = true) :
 Calls Tryz.prog 127 #[.pointer (some ⟨b,0,none⟩)] w fun e w' => StEnd w b s x l (clR r x l) e w':=by
 have hbw:=hR.rk.lt;have BG:=Lib.hid (fun p W h => begins_r p b s t x v W h (by omega));have L1:=Lib.hid (fun W h => letter1 b s t x v W h (by omega));have L2:=Lib.hid (fun W h => letter2 b s t x v W h (by omega));have hRq:=hR;have hQ:=Bl.refl w;rw [List.drop_one] at h6 L1;have TG:=Lib.hid (show ∀ W,RT W b s t x l → ES W → ML W → Calls Tryz.prog 148 #[.pointer (some ⟨b,0,none⟩),.int .i64 3,.int .i64 2] W fun e w' => StEnd W b s x l (clR r x l) e w' from fun W h1 h2 h3 => tag_close b s r x c d l W (HT.out ▸ h1) hs hx hl h2 hbE h3 hbM);cases hO:clR r x l with
 | none =>
   rw [hO] at TG;clear hO;go_enter Tryz.func127,Tryz.ntmps127;go_wp2_with (first | (go_at_call 144; (with_reducible refine (BG.out _ _ hRq).mono ?_);rintro e wq ⟨rfl,hqq⟩;replace hRq:=hRq.of_bl hqq.bl;replace hQ:=hQ.trans hqq.bl;have hRTq:RT _ b s t x l:=⟨v,hRq,hT.of_bl hQ⟩) | (go_at_call 147; (with_reducible refine (L1.out _ hRq).mono ?_);rintro e wq ⟨rfl,hqq⟩;replace hRq:=hRq.of_bl hqq.bl;replace hQ:=hQ.trans hqq.bl;have hRTq:RT _ b s t x l:=⟨v,hRq,hT.of_bl hQ⟩) | (go_at_call 147; (with_reducible refine (L2.out _ hRq).mono ?_);rintro e wq ⟨rfl,hqq⟩;replace hRq:=hRq.of_bl hqq.bl;replace hQ:=hQ.trans hqq.bl;have hRTq:RT _ b s t x l:=⟨v,hRq,hT.of_bl hQ⟩) | (go_at_call 148; (with_reducible refine (TG.out _ hRTq (hE.of_bl hQ) (hM.of_bl hQ)).mono ?_);rintro e wz ⟨hBz,hFz,rfl,hz⟩));exact ⟨rfl,(hQ.to_below b (Nat.le_of_lt hbw)).trans hBz,(FrT.of_gb (gb_bl hQ)).trans hFz,rfl,hz⟩
 | some q =>
   obtain ⟨u,x', l'⟩:=q;rw [hO] at TG;clear hO;go_enter Tryz.func127,Tryz.ntmps127;go_wp2_with (first | (go_at_call 144; (with_reducible refine (BG.out _ _ hRq).mono ?_);rintro e wq ⟨rfl,hqq⟩;replace hRq:=hRq.of_bl hqq.bl;replace hQ:=hQ.trans hqq.bl;have hRTq:RT _ b s t x l:=⟨v,hRq,hT.of_bl hQ⟩) | (go_at_call 147; (with_reducible refine (L1.out _ hRq).mono ?_);rintro e wq ⟨rfl,hqq⟩;replace hRq:=hRq.of_bl hqq.bl;replace hQ:=hQ.trans hqq.bl;have hRTq:RT _ b s t x l:=⟨v,hRq,hT.of_bl hQ⟩) | (go_at_call 147; (with_reducible refine (L2.out _ hRq).mono ?_);rintro e wq ⟨rfl,hqq⟩;replace hRq:=hRq.of_bl hqq.bl;replace hQ:=hQ.trans hqq.bl;have hRTq:RT _ b s t x l:=⟨v,hRq,hT.of_bl hQ⟩) | (go_at_call 148; (with_reducible refine (TG.out _ hRTq (hE.of_bl hQ) (hM.of_bl hQ)).mono ?_);rintro e wz ⟨hBz,hFz,rfl,hz⟩));go_end0;exact ⟨(hQ.to_below b (Nat.le_of_lt hbw)).trans hBz,(FrT.of_gb (gb_bl hQ)).trans hFz,rfl,hz⟩
theorem step_com (b:Nat) (s t x:List UInt8) (l:List Tok) (v:Value) (w:World) (hR:Rr w b s t x v) (hT:TkO w (b + 1) v l) (hs:s.length ≤ 1073741824) (_hx:x.length ≤ 1073741824) (_hl:l.length ≤ 1073741823) (_hE:ES w) (_hbE:1 < b) (hM:ML w) (_hbM:0 < b)
 (h1:pre [60] t = true) (h2:pre [60,47] t = false) (h3:pre [60,33,45,45] t = true) (h6:hd ltr (List.drop 1 t) = false) :
 Calls Tryz.prog 127 #[.pointer (some ⟨b,0,none⟩)] w fun e w' => StEnd w b s x l ((cutS [45,45,62] (t.drop 2)).map fun u => (u,x,l)) e w':=by
 have hbw:=hR.rk.lt;have BG:=Lib.hid (fun p W h => begins_r p b s t x v W h (by omega));have L1:=Lib.hid (fun W h => letter1 b s t x v W h (by omega));have L2:=Lib.hid (fun W h => letter2 b s t x v W h (by omega));have hRq:=hR;have hQ:=Bl.refl w;rw [List.drop_one] at h6 L1;cases hO:cutS [45,45,62] (t.drop 2) with
 | none =>
   have TC:=Lib.hid (show ∀ W,Rr W b s t x v → ML W → Calls Tryz.prog 149 #[.pointer (some ⟨b,0,none⟩),.string ⟨#[45,45,62]⟩,.int .i64 2] W fun e w' => e = .panicked OPN∧Qt W w' from fun W h1 h2 => to_no [45,45,62] (by simp) (by simp) 2 (by omega) b s t x v W h1 (by omega) h2 hO);clear hO;go_enter Tryz.func127,Tryz.ntmps127;go_wp2_with (first | (go_at_call 144; (with_reducible refine (BG.out _ _ hRq).mono ?_);rintro e wq ⟨rfl,hqq⟩;replace hRq:=hRq.of_bl hqq.bl;replace hQ:=hQ.trans hqq.bl;have hRTq:RT _ b s t x l:=⟨v,hRq,hT.of_bl hQ⟩) | (go_at_call 147; (with_reducible refine (L1.out _ hRq).mono ?_);rintro e wq ⟨rfl,hqq⟩;replace hRq:=hRq.of_bl hqq.bl;replace hQ:=hQ.trans hqq.bl;have hRTq:RT _ b s t x l:=⟨v,hRq,hT.of_bl hQ⟩) | (go_at_call 147; (with_reducible refine (L2.out _ hRq).mono ?_);rintro e wq ⟨rfl,hqq⟩;replace hRq:=hRq.of_bl hqq.bl;replace hQ:=hQ.trans hqq.bl;have hRTq:RT _ b s t x l:=⟨v,hRq,hT.of_bl hQ⟩) | (go_at_call 149; (with_reducible refine (TC.out _ hRq (hM.of_bl hQ)).mono ?_);rintro e wz ⟨rfl,hqz⟩));have hgw:=gb_bl (b:=some b) (hQ.trans hqz.bl);exact ⟨rfl,below_gb hgw (Nat.le_refl _) (Nat.le_of_lt hbw),FrT.of_gb hgw,rfl,t,v,hRq.of_bl hqz.bl,hT.of_gb hgw (Nat.lt_succ_self _)⟩
 | some u =>
   have TC:=Lib.hid (show ∀ W,Rr W b s t x v → ML W → Calls Tryz.prog 149 #[.pointer (some ⟨b,0,none⟩),.string ⟨#[45,45,62]⟩,.int .i64 2] W fun e w' => e = .returned (.tuple #[])∧Rr w' b s u x v∧W.grownBy w' (some b) from fun W h1 h2 => to_yes [45,45,62] (by simp) (by simp) 2 (by omega) b s t x u v W h1 (by omega) h2 hO);clear hO;go_enter Tryz.func127,Tryz.ntmps127;go_wp2_with (first | (go_at_call 144; (with_reducible refine (BG.out _ _ hRq).mono ?_);rintro e wq ⟨rfl,hqq⟩;replace hRq:=hRq.of_bl hqq.bl;replace hQ:=hQ.trans hqq.bl;have hRTq:RT _ b s t x l:=⟨v,hRq,hT.of_bl hQ⟩) | (go_at_call 147; (with_reducible refine (L1.out _ hRq).mono ?_);rintro e wq ⟨rfl,hqq⟩;replace hRq:=hRq.of_bl hqq.bl;replace hQ:=hQ.trans hqq.bl;have hRTq:RT _ b s t x l:=⟨v,hRq,hT.of_bl hQ⟩) | (go_at_call 147; (with_reducible refine (L2.out _ hRq).mono ?_);rintro e wq ⟨rfl,hqq⟩;replace hRq:=hRq.of_bl hqq.bl;replace hQ:=hQ.trans hqq.bl;have hRTq:RT _ b s t x l:=⟨v,hRq,hT.of_bl hQ⟩) | (go_at_call 149; (with_reducible refine (TC.out _ hRq (hM.of_bl hQ)).mono ?_);rintro e wz ⟨rfl,hRz,hgz⟩));go_end0;have hgw:=gb_trans (gb_bl (b:=some b) hQ) hgz;exact ⟨below_gb hgw (Nat.le_refl _) (Nat.le_of_lt hbw),FrT.of_gb hgw,rfl,v,hRz,hT.of_gb hgw (Nat.lt_succ_self _)⟩
theorem step_s33 (b:Nat) (s t x:List UInt8) (l:List Tok) (v:Value) (w:World) (hR:Rr w b s t x v) (hT:TkO w (b + 1) v l) (hs:s.length ≤ 1073741824) (_hx:x.length ≤ 1073741824) (_hl:l.length ≤ 1073741823) (_hE:ES w) (_hbE:1 < b) (hM:ML w) (_hbM:0 < b)
 (h1:pre [60] t = true) (h2:pre [60,47] t = false) (h3:pre [60,33,45,45] t = false) (h4:pre [60,33] t = true) (h6:hd ltr (List.drop 1 t) = false) :
 Calls Tryz.prog 127 #[.pointer (some ⟨b,0,none⟩)] w fun e w' => StEnd w b s x l ((cutS [62] (t.drop 0)).map fun u => (u,x,l)) e w':=by
 have hbw:=hR.rk.lt;have BG:=Lib.hid (fun p W h => begins_r p b s t x v W h (by omega));have L1:=Lib.hid (fun W h => letter1 b s t x v W h (by omega));have L2:=Lib.hid (fun W h => letter2 b s t x v W h (by omega));have hRq:=hR;have hQ:=Bl.refl w;rw [List.drop_one] at h6 L1;cases hO:cutS [62] (t.drop 0) with
 | none =>
   have TC:=Lib.hid (show ∀ W,Rr W b s t x v → ML W → Calls Tryz.prog 149 #[.pointer (some ⟨b,0,none⟩),.string ⟨#[62]⟩,.int .i64 0] W fun e w' => e = .panicked OPN∧Qt W w' from fun W h1 h2 => to_no [62] (by simp) (by simp) 0 (by omega) b s t x v W h1 (by omega) h2 hO);clear hO;go_enter Tryz.func127,Tryz.ntmps127;go_wp2_with (first | (go_at_call 144; (with_reducible refine (BG.out _ _ hRq).mono ?_);rintro e wq ⟨rfl,hqq⟩;replace hRq:=hRq.of_bl hqq.bl;replace hQ:=hQ.trans hqq.bl;have hRTq:RT _ b s t x l:=⟨v,hRq,hT.of_bl hQ⟩) | (go_at_call 147; (with_reducible refine (L1.out _ hRq).mono ?_);rintro e wq ⟨rfl,hqq⟩;replace hRq:=hRq.of_bl hqq.bl;replace hQ:=hQ.trans hqq.bl;have hRTq:RT _ b s t x l:=⟨v,hRq,hT.of_bl hQ⟩) | (go_at_call 147; (with_reducible refine (L2.out _ hRq).mono ?_);rintro e wq ⟨rfl,hqq⟩;replace hRq:=hRq.of_bl hqq.bl;replace hQ:=hQ.trans hqq.bl;have hRTq:RT _ b s t x l:=⟨v,hRq,hT.of_bl hQ⟩) | (go_at_call 149; (with_reducible refine (TC.out _ hRq (hM.of_bl hQ)).mono ?_);rintro e wz ⟨rfl,hqz⟩));have hgw:=gb_bl (b:=some b) (hQ.trans hqz.bl);exact ⟨rfl,below_gb hgw (Nat.le_refl _) (Nat.le_of_lt hbw),FrT.of_gb hgw,rfl,t,v,hRq.of_bl hqz.bl,hT.of_gb hgw (Nat.lt_succ_self _)⟩
 | some u =>
   have TC:=Lib.hid (show ∀ W,Rr W b s t x v → ML W → Calls Tryz.prog 149 #[.pointer (some ⟨b,0,none⟩),.string ⟨#[62]⟩,.int .i64 0] W fun e w' => e = .returned (.tuple #[])∧Rr w' b s u x v∧W.grownBy w' (some b) from fun W h1 h2 => to_yes [62] (by simp) (by simp) 0 (by omega) b s t x u v W h1 (by omega) h2 hO);clear hO;go_enter Tryz.func127,Tryz.ntmps127;go_wp2_with (first | (go_at_call 144; (with_reducible refine (BG.out _ _ hRq).mono ?_);rintro e wq ⟨rfl,hqq⟩;replace hRq:=hRq.of_bl hqq.bl;replace hQ:=hQ.trans hqq.bl;have hRTq:RT _ b s t x l:=⟨v,hRq,hT.of_bl hQ⟩) | (go_at_call 147; (with_reducible refine (L1.out _ hRq).mono ?_);rintro e wq ⟨rfl,hqq⟩;replace hRq:=hRq.of_bl hqq.bl;replace hQ:=hQ.trans hqq.bl;have hRTq:RT _ b s t x l:=⟨v,hRq,hT.of_bl hQ⟩) | (go_at_call 147; (with_reducible refine (L2.out _ hRq).mono ?_);rintro e wq ⟨rfl,hqq⟩;replace hRq:=hRq.of_bl hqq.bl;replace hQ:=hQ.trans hqq.bl;have hRTq:RT _ b s t x l:=⟨v,hRq,hT.of_bl hQ⟩) | (go_at_call 149; (with_reducible refine (TC.out _ hRq (hM.of_bl hQ)).mono ?_);rintro e wz ⟨rfl,hRz,hgz⟩));go_end0;have hgw:=gb_trans (gb_bl (b:=some b) hQ) hgz;exact ⟨below_gb hgw (Nat.le_refl _) (Nat.le_of_lt hbw),FrT.of_gb hgw,rfl,v,hRz,hT.of_gb hgw (Nat.lt_succ_self _)⟩
theorem step_s63 (b:Nat) (s t x:List UInt8) (l:List Tok) (v:Value) (w:World) (hR:Rr w b s t x v) (hT:TkO w (b + 1) v l) (hs:s.length ≤ 1073741824) (_hx:x.length ≤ 1073741824) (_hl:l.length ≤ 1073741823) (_hE:ES w) (_hbE:1 < b) (hM:ML w) (_hbM:0 < b)
 (h1:pre [60] t = true) (h2:pre [60,47] t = false) (h3:pre [60,33,45,45] t = false) (h4:pre [60,33] t = false) (h5:pre [60,63] t = true) (h6:hd ltr (List.drop 1 t) = false) :
 Calls Tryz.prog 127 #[.pointer (some ⟨b,0,none⟩)] w fun e w' => StEnd w b s x l ((cutS [62] (t.drop 0)).map fun u => (u,x,l)) e w':=by
 have hbw:=hR.rk.lt;have BG:=Lib.hid (fun p W h => begins_r p b s t x v W h (by omega));have L1:=Lib.hid (fun W h => letter1 b s t x v W h (by omega));have L2:=Lib.hid (fun W h => letter2 b s t x v W h (by omega));have hRq:=hR;have hQ:=Bl.refl w;rw [List.drop_one] at h6 L1;cases hO:cutS [62] (t.drop 0) with
 | none =>
   have TC:=Lib.hid (show ∀ W,Rr W b s t x v → ML W → Calls Tryz.prog 149 #[.pointer (some ⟨b,0,none⟩),.string ⟨#[62]⟩,.int .i64 0] W fun e w' => e = .panicked OPN∧Qt W w' from fun W h1 h2 => to_no [62] (by simp) (by simp) 0 (by omega) b s t x v W h1 (by omega) h2 hO);clear hO;go_enter Tryz.func127,Tryz.ntmps127;go_wp2_with (first | (go_at_call 144; (with_reducible refine (BG.out _ _ hRq).mono ?_);rintro e wq ⟨rfl,hqq⟩;replace hRq:=hRq.of_bl hqq.bl;replace hQ:=hQ.trans hqq.bl;have hRTq:RT _ b s t x l:=⟨v,hRq,hT.of_bl hQ⟩) | (go_at_call 147; (with_reducible refine (L1.out _ hRq).mono ?_);rintro e wq ⟨rfl,hqq⟩;replace hRq:=hRq.of_bl hqq.bl;replace hQ:=hQ.trans hqq.bl;have hRTq:RT _ b s t x l:=⟨v,hRq,hT.of_bl hQ⟩) | (go_at_call 147; (with_reducible refine (L2.out _ hRq).mono ?_);rintro e wq ⟨rfl,hqq⟩;replace hRq:=hRq.of_bl hqq.bl;replace hQ:=hQ.trans hqq.bl;have hRTq:RT _ b s t x l:=⟨v,hRq,hT.of_bl hQ⟩) | (go_at_call 149; (with_reducible refine (TC.out _ hRq (hM.of_bl hQ)).mono ?_);rintro e wz ⟨rfl,hqz⟩));have hgw:=gb_bl (b:=some b) (hQ.trans hqz.bl);exact ⟨rfl,below_gb hgw (Nat.le_refl _) (Nat.le_of_lt hbw),FrT.of_gb hgw,rfl,t,v,hRq.of_bl hqz.bl,hT.of_gb hgw (Nat.lt_succ_self _)⟩
 | some u =>
   have TC:=Lib.hid (show ∀ W,Rr W b s t x v → ML W → Calls Tryz.prog 149 #[.pointer (some ⟨b,0,none⟩),.string ⟨#[62]⟩,.int .i64 0] W fun e w' => e = .returned (.tuple #[])∧Rr w' b s u x v∧W.grownBy w' (some b) from fun W h1 h2 => to_yes [62] (by simp) (by simp) 0 (by omega) b s t x u v W h1 (by omega) h2 hO);clear hO;go_enter Tryz.func127,Tryz.ntmps127;go_wp2_with (first | (go_at_call 144; (with_reducible refine (BG.out _ _ hRq).mono ?_);rintro e wq ⟨rfl,hqq⟩;replace hRq:=hRq.of_bl hqq.bl;replace hQ:=hQ.trans hqq.bl;have hRTq:RT _ b s t x l:=⟨v,hRq,hT.of_bl hQ⟩) | (go_at_call 147; (with_reducible refine (L1.out _ hRq).mono ?_);rintro e wq ⟨rfl,hqq⟩;replace hRq:=hRq.of_bl hqq.bl;replace hQ:=hQ.trans hqq.bl;have hRTq:RT _ b s t x l:=⟨v,hRq,hT.of_bl hQ⟩) | (go_at_call 147; (with_reducible refine (L2.out _ hRq).mono ?_);rintro e wq ⟨rfl,hqq⟩;replace hRq:=hRq.of_bl hqq.bl;replace hQ:=hQ.trans hqq.bl;have hRTq:RT _ b s t x l:=⟨v,hRq,hT.of_bl hQ⟩) | (go_at_call 149; (with_reducible refine (TC.out _ hRq (hM.of_bl hQ)).mono ?_);rintro e wz ⟨rfl,hRz,hgz⟩));go_end0;have hgw:=gb_trans (gb_bl (b:=some b) hQ) hgz;exact ⟨below_gb hgw (Nat.le_refl _) (Nat.le_of_lt hbw),FrT.of_gb hgw,rfl,v,hRz,hT.of_gb hgw (Nat.lt_succ_self _)⟩
theorem step_s47 (b:Nat) (s t x:List UInt8) (l:List Tok) (v:Value) (w:World) (hR:Rr w b s t x v) (hT:TkO w (b + 1) v l) (hs:s.length ≤ 1073741824) (_hx:x.length ≤ 1073741824) (_hl:l.length ≤ 1073741823) (_hE:ES w) (_hbE:1 < b) (hM:ML w) (_hbM:0 < b)
 (h1:pre [60] t = true) (h2:pre [60,47] t = true) (h3:pre [60,33,45,45] t = false) (h4:pre [60,33] t = false) (h5:pre [60,63] t = false) (h6:hd ltr (List.drop 1 t) = false) (h7:hd ltr (List.drop 2 t) = false) :
 Calls Tryz.prog 127 #[.pointer (some ⟨b,0,none⟩)] w fun e w' => StEnd w b s x l ((cutS [62] (t.drop 0)).map fun u => (u,x,l)) e w':=by
 have hbw:=hR.rk.lt;have BG:=Lib.hid (fun p W h => begins_r p b s t x v W h (by omega));have L1:=Lib.hid (fun W h => letter1 b s t x v W h (by omega));have L2:=Lib.hid (fun W h => letter2 b s t x v W h (by omega));have hRq:=hR;have hQ:=Bl.refl w;rw [List.drop_one] at h6 L1;cases hO:cutS [62] (t.drop 0) with
 | none =>
   have TC:=Lib.hid (show ∀ W,Rr W b s t x v → ML W → Calls Tryz.prog 149 #[.pointer (some ⟨b,0,none⟩),.string ⟨#[62]⟩,.int .i64 0] W fun e w' => e = .panicked OPN∧Qt W w' from fun W h1 h2 => to_no [62] (by simp) (by simp) 0 (by omega) b s t x v W h1 (by omega) h2 hO);clear hO;go_enter Tryz.func127,Tryz.ntmps127;go_wp2_with (first | (go_at_call 144; (with_reducible refine (BG.out _ _ hRq).mono ?_);rintro e wq ⟨rfl,hqq⟩;replace hRq:=hRq.of_bl hqq.bl;replace hQ:=hQ.trans hqq.bl;have hRTq:RT _ b s t x l:=⟨v,hRq,hT.of_bl hQ⟩) | (go_at_call 147; (with_reducible refine (L1.out _ hRq).mono ?_);rintro e wq ⟨rfl,hqq⟩;replace hRq:=hRq.of_bl hqq.bl;replace hQ:=hQ.trans hqq.bl;have hRTq:RT _ b s t x l:=⟨v,hRq,hT.of_bl hQ⟩) | (go_at_call 147; (with_reducible refine (L2.out _ hRq).mono ?_);rintro e wq ⟨rfl,hqq⟩;replace hRq:=hRq.of_bl hqq.bl;replace hQ:=hQ.trans hqq.bl;have hRTq:RT _ b s t x l:=⟨v,hRq,hT.of_bl hQ⟩) | (go_at_call 149; (with_reducible refine (TC.out _ hRq (hM.of_bl hQ)).mono ?_);rintro e wz ⟨rfl,hqz⟩));have hgw:=gb_bl (b:=some b) (hQ.trans hqz.bl);exact ⟨rfl,below_gb hgw (Nat.le_refl _) (Nat.le_of_lt hbw),FrT.of_gb hgw,rfl,t,v,hRq.of_bl hqz.bl,hT.of_gb hgw (Nat.lt_succ_self _)⟩
 | some u =>
   have TC:=Lib.hid (show ∀ W,Rr W b s t x v → ML W → Calls Tryz.prog 149 #[.pointer (some ⟨b,0,none⟩),.string ⟨#[62]⟩,.int .i64 0] W fun e w' => e = .returned (.tuple #[])∧Rr w' b s u x v∧W.grownBy w' (some b) from fun W h1 h2 => to_yes [62] (by simp) (by simp) 0 (by omega) b s t x u v W h1 (by omega) h2 hO);clear hO;go_enter Tryz.func127,Tryz.ntmps127;go_wp2_with (first | (go_at_call 144; (with_reducible refine (BG.out _ _ hRq).mono ?_);rintro e wq ⟨rfl,hqq⟩;replace hRq:=hRq.of_bl hqq.bl;replace hQ:=hQ.trans hqq.bl;have hRTq:RT _ b s t x l:=⟨v,hRq,hT.of_bl hQ⟩) | (go_at_call 147; (with_reducible refine (L1.out _ hRq).mono ?_);rintro e wq ⟨rfl,hqq⟩;replace hRq:=hRq.of_bl hqq.bl;replace hQ:=hQ.trans hqq.bl;have hRTq:RT _ b s t x l:=⟨v,hRq,hT.of_bl hQ⟩) | (go_at_call 147; (with_reducible refine (L2.out _ hRq).mono ?_);rintro e wq ⟨rfl,hqq⟩;replace hRq:=hRq.of_bl hqq.bl;replace hQ:=hQ.trans hqq.bl;have hRTq:RT _ b s t x l:=⟨v,hRq,hT.of_bl hQ⟩) | (go_at_call 149; (with_reducible refine (TC.out _ hRq (hM.of_bl hQ)).mono ?_);rintro e wz ⟨rfl,hRz,hgz⟩));go_end0;have hgw:=gb_trans (gb_bl (b:=some b) hQ) hgz;exact ⟨below_gb hgw (Nat.le_refl _) (Nat.le_of_lt hbw),FrT.of_gb hgw,rfl,v,hRz,hT.of_gb hgw (Nat.lt_succ_self _)⟩
theorem hd_head (r:List UInt8):hd ltr r = (r.head?.map ltr).getD false:=by cases r <;> rfl
theorem cutS_skip (p c:UInt8) (r:List UInt8) (h:p ≠ c):cutS [p] (c :: r) = cutS [p] r:=by
 conv => lhs;unfold cutS
 rw [if_neg];simp only [pre,List.isPrefixOf,Bool.and_true,beq_iff_eq];exact h
theorem step_c (b:Nat) (s t x:List UInt8) (l:List Tok) (v:Value) (w:World) (hR:Rr w b s t x v) (hT:TkO w (b + 1) v l) (ht:t ≠ []) (hs:s.length ≤ 1073741824) (hx:x.length ≤ 1073741824) (hl:l.length ≤ 1073741823) (hE:ES w) (hbE:1 < b) (hM:ML w) (hbM:0 < b) :
 Calls Tryz.prog 127 #[.pointer (some ⟨b,0,none⟩)] w fun e w' => StEnd w b s x l (stP t x l) e w':=by
 cases t with
 | nil => exact absurd rfl ht
 | cons c r =>
   by_cases hc:c = 60
   · subst hc;have e0:stP (60 :: r) x l = (match tagP r with | none => some (r,x ++ [60],l) | some none => none | some (some (none,u)) => some (u,x,l) | some (some (some k,u)) => if isNm k.2.1 then some (u,[],flsh x l ++ [k]) else some (u,x,l)):=by
      unfold stP;simp only [if_true];first | done | (rcases tagP r with _ | _ | ⟨_ | k,u⟩ <;> rfl)
     have h1:pre [60] (60 :: r) = true:=by rw [pre_one];first | done | rfl
     cases r with
     | nil =>
       rw [e0];exact step_lone b s [60] x l v w hR hT hs hx hl hE hbE hM hbM 60 [] (Lib.hid rfl) h1 rfl rfl rfl rfl rfl
     | cons d r =>
       by_cases hd':ltr d = true
       · have e1:stP (60 :: d :: r) x l = opR (d :: r) x l:=by
          rw [e0,tagP_cons,if_pos hd'];unfold opR;cases atP ((d :: r).dropWhile tch) [] with
          | none => rfl
          | some y => simp only [Option.map_some];split <;> rfl
         rw [e1];exact step_open b s _ x l v w hR hT hs hx hl hE hbE hM hbM 60 (d :: r) (Lib.hid rfl) h1 hd'
       have h6:hd ltr (List.drop 1 (60 :: d :: r)) = false:=by simpa [hd] using hd'
       by_cases h47:d = 47
       · subst h47;have h2:pre [60,47] (60 :: 47 :: r) = true:=by rw [pre_one,pre_one];rfl
         have h3:pre [60,33,45,45] (60 :: 47 :: r) = false:=by rw [pre_one];exact pre_ne _ _ (by decide)
         have h4:pre [60,33] (60 :: 47 :: r) = false:=by rw [pre_one];exact pre_ne _ _ (by decide)
         have h5:pre [60,63] (60 :: 47 :: r) = false:=by rw [pre_one];exact pre_ne _ _ (by decide)
         by_cases h7:hd ltr r = true
         · cases r with
           | nil => exact absurd h7 (by decide)
           | cons f r =>
             have e1:stP (60 :: 47 :: f :: r) x l = clR (f :: r) x l:=by
              rw [e0,tagP_cons,if_neg hd', if_pos ⟨rfl,by rw [← hd_head];exact h7⟩];unfold clR;cases cutS [62] ((f :: r).dropWhile tch) with
              | none => rfl
              | some y => simp only [Option.map_some];split <;> rfl
             rw [e1];exact step_close b s _ x l v w hR hT hs hx hl hE hbE hM hbM 60 47 (f :: r) (Lib.hid rfl) h1 h2 h6 h7
         · have e1:stP (60 :: 47 :: r) x l = (cutS [62] ((60 :: 47 :: r).drop 0)).map fun u => (u,x,l):=by
            rw [e0,tagP_cons,if_neg hd', if_neg (by rintro ⟨_,h⟩;rw [← hd_head] at h;exact h7 h),if_neg (by rw [pre_ne _ _ (by decide)];decide),if_pos (Or.inr (Or.inr rfl)),List.drop_zero,cutS_skip 62 60 _ (by decide)];cases cutS [62] (47 :: r) <;> rfl
           rw [e1];exact step_s47 b s _ x l v w hR hT hs hx hl hE hbE hM hbM h1 h2 h3 h4 h5 h6 (by simpa using h7)
       have h2:pre [60,47] (60 :: d :: r) = false:=by rw [pre_one];exact pre_ne _ _ h47
       have hn47:¬ (d = 47∧(r.head?.map ltr).getD false = true):=fun h => h47 h.1
       by_cases h33:d = 33
       · subst h33;have h4:pre [60,33] (60 :: 33 :: r) = true:=by rw [pre_one,pre_one];rfl
         by_cases h3:pre [33,45,45] (33 :: r) = true
         · have e1:stP (60 :: 33 :: r) x l = (cutS [45,45,62] ((60 :: 33 :: r).drop 2)).map fun u => (u,x,l):=by
            rw [e0,tagP_cons,if_neg hd', if_neg hn47,if_pos h3];simp only [List.drop_succ_cons,List.drop_zero];cases cutS [45,45,62] r <;> rfl
           rw [e1];exact step_com b s _ x l v w hR hT hs hx hl hE hbE hM hbM h1 h2 (by rw [pre_one];exact h3) h6
         · have e1:stP (60 :: 33 :: r) x l = (cutS [62] ((60 :: 33 :: r).drop 0)).map fun u => (u,x,l):=by
            rw [e0,tagP_cons,if_neg hd', if_neg hn47,if_neg h3,if_pos (Or.inl rfl),List.drop_zero,cutS_skip 62 60 _ (by decide)];cases cutS [62] (33 :: r) <;> rfl
           rw [e1];exact step_s33 b s _ x l v w hR hT hs hx hl hE hbE hM hbM h1 h2 (by rw [pre_one];simpa using h3) h4 h6
       have h3:pre [60,33,45,45] (60 :: d :: r) = false:=by rw [pre_one];exact pre_ne _ _ h33
       have h4:pre [60,33] (60 :: d :: r) = false:=by rw [pre_one];exact pre_ne _ _ h33
       have h3':¬ pre [33,45,45] (d :: r) = true:=by rw [pre_ne _ _ h33];decide
       by_cases h63:d = 63
       · subst h63;have e1:stP (60 :: 63 :: r) x l = (cutS [62] ((60 :: 63 :: r).drop 0)).map fun u => (u,x,l):=by
          rw [e0,tagP_cons,if_neg hd', if_neg hn47,if_neg h3', if_pos (Or.inr (Or.inl rfl)),List.drop_zero,cutS_skip 62 60 _ (by decide)];cases cutS [62] (63 :: r) <;> rfl
         rw [e1];exact step_s63 b s _ x l v w hR hT hs hx hl hE hbE hM hbM h1 h2 h3 h4 (by rw [pre_one,pre_one];rfl) h6
       · have h5:pre [60,63] (60 :: d :: r) = false:=by rw [pre_one];exact pre_ne _ _ h63
         have e1:stP (60 :: d :: r) x l = some (d :: r,x ++ [60],l):=by
          rw [e0,tagP_cons,if_neg hd', if_neg hn47,if_neg h3', if_neg (fun h => h.elim h33 (fun h => h.elim h63 h47))]
         rw [e1];exact step_lone b s _ x l v w hR hT hs hx hl hE hbE hM hbM 60 (d :: r) (Lib.hid rfl) h1 h2 h3 h4 h5 h6
   · have e1:stP (c :: r) x l = some ((c :: r).dropWhile not60,x ++ (c :: r).takeWhile not60,l):=by unfold stP;simp only [if_neg hc]
     rw [e1];exact step_text b s _ x l v w hR hT hs hx (pre_ne _ _ hc)
def Ok (w:World) (k:Nat) (v:Bool):Prop:=w.heap[k]? = some (.cells #[.bool v] 4 (0,0))
theorem Ok.cells {w:World} {k:Nat} {v:Bool} (h:Ok w k v):w.cell? ⟨k,0,none⟩ = some (.bool v)∧w.frozen? ⟨k,0,none⟩ = false:=by
 unfold Ok at h;simp [World.cell?,World.frozen?,h]
theorem try1_idle (p:Addr) (w:World) :
 CallsD Tryz.prog 126 #[.pointer (some p)] .returning w fun e u' w' => e = .returned (.tuple #[])∧u' = .returning∧w' = w:=by
 refine callsD_of_wpS Tryz.func126 rfl fun c₀ cs hu => ?_
 apply wpS_seq;apply wpS_region;simp [wpOpsS,go_sem,recoverD,hu,Tryz.ntmps126,Exit.thenS];apply wpS_seq;apply wpS_region;simp [wpOpsS,go_sem,Exit.thenS];refine wpS_cond (t:=false) (by simp [Act.eval,Array.replicate]) ?_;simp only [Bool.false_eq_true,if_false];refine wpS_of_wp (wp_skip ?_);cases c₀;simp_all [bodyPostS,results,Tryz.results126]
theorem asserted (w:World):(Instr.typeAssert (.iface 149 (.agg #[])) 20 149 true).run Tryz.prog w = .ok (.tuple #[.agg #[],.bool true]) w:=by
 have hu:Tryz.prog.underlying 149 = some (.struct #[]):=by kernel_rfl
 simp [Instr.typeAssert,run_underlying hu]
theorem try1_caught (k:Nat) (v:Bool) (w:World) (hk:Ok w k v) :
 CallsD Tryz.prog 126 #[.pointer (some ⟨k,0,none⟩)] (.panicking OPN) w fun e u' w' =>
  e = .returned (.tuple #[])∧u' = .panicking [{ v:=.iface 149 (.agg #[]),recovered:=true }]∧∃ o,w' = (w.setCell ⟨k,0,none⟩ (.bool false)).alloc o:=by
 obtain ⟨hc,hz⟩:=hk.cells;refine callsD_of_wpS Tryz.func126 rfl fun c₀ cs hu => ?_
 apply wpS_seq;apply wpS_region;simp [wpOpsS,go_sem,recoverD,hu,Tryz.ntmps126,Exit.thenS,OPN];apply wpS_seq;apply wpS_region;simp [wpOpsS,go_sem,Exit.thenS];refine wpS_cond (t:=true) (by simp [Act.eval,Array.replicate]) ?_;simp only [if_true];have hta:=asserted;apply wpS_seq;apply wpS_seq;apply wpS_region;simp [wpOpsS,go_sem,Exit.thenS,hta];apply wpS_seq;apply wpS_region;simp [wpOpsS,go_sem,Exit.thenS];refine wpS_cond (t:=false) (by simp [Act.eval,Array.replicate]) ?_;simp only [Bool.false_eq_true,if_false];refine wpS_of_wp (wp_skip ?_);have hlt:k < w.heap.size:=(Array.getElem?_eq_some_iff.1 hk).1;simp only [Exit.thenS];apply wpS_region;simp [wpOpsS,go_sem,hc,hz,hlt];cases c₀;simp_all [bodyPostS,results,Tryz.results126];exact ⟨_,rfl⟩
def TrEnd (w0:World) (b:Nat) (s x:List UInt8) (l:List Tok) (R:Option (List UInt8 × List UInt8 × List Tok)) (e:Ending) (w':World):Prop :=
 e = .returned (.bool R.isSome) ∧ Below b w0 w' ∧ match R with
   | none => ∃ t', RT w' b s t' x l
   | some (u,x', l') => RT w' b s u x' l'
theorem RT.of_gb {w w':World} {b g:Nat} {s t x:List UInt8} {l:List Tok} (h:RT w b s t x l) (hg:w.grownBy w' (some g)) (hne:b ≠ g) (hT:∀ v,TkO w (b + 1) v l → TkO w' (b + 1) v l):RT w' b s t x l:=by
 obtain ⟨v,h1,h2⟩:=h;exact ⟨v,⟨h1.rk.of_gb hg (by simpa using hne),h1.sf⟩,hT v h2⟩
theorem RT.of_bl {w w':World} {b:Nat} {s t x:List UInt8} {l:List Tok} (h:RT w b s t x l) (hb:Bl w w'):RT w' b s t x l:=by
 obtain ⟨v,h1,h2⟩:=h;exact ⟨v,h1.of_bl hb,h2.of_bl hb⟩
theorem RT.ok {w:World} {b k:Nat} {s t x:List UInt8} {l:List Tok} {v:Bool} (h:RT w b s t x l) (hk:Ok w k v) (hb:b ≠ k) (u:Value):RT (w.setCell ⟨k,0,none⟩ u) b s t x l:=by
 refine h.of_gb (gb_set (gb_refl _ _) 0 u) hb (fun v' hT => ?_);obtain ⟨ents,h1,h2,h3⟩:=hT;have key:∀ {B e sz n:Nat} {va:Value} {xs:List Value},w.ownsRow B e sz va n xs → e ≠ 4 → (w.setCell ⟨k,0,none⟩ u).ownsRow B e sz va n xs:=by
  intro B e sz n va xs h he;refine World.ownsRow.kept h (gb_set (gb_refl _ w) 0 u) ?_;rcases h.2 with ⟨rfl,_⟩ | ⟨g,c,cur,rfl,_,hg,_⟩
  · left;rfl
  · right;simp only [Value.ownBlock,ne_eq,Option.some.injEq];rintro rfl;unfold Ok at hk;rw [hg] at hk;exact he (Obj.cells.inj (Option.some.inj hk)).2.1
 exact ⟨ents,h1,key h2 (by decide),fun p hp => key (h3 p hp) (by decide)⟩
theorem try_c (b:Nat) (s t x:List UInt8) (l:List Tok) (w:World) (hR:RT w b s t x l) (ht:t ≠ []) (hs:s.length ≤ 1073741824) (hx:x.length ≤ 1073741824) (hl:l.length ≤ 1073741823) (hE:ES w) (hbE:1 < b) (hM:ML w) (hbM:0 < b) :
 Calls Tryz.prog 90 #[.pointer (some ⟨b,0,none⟩)] w fun e w' => TrEnd w b s x l (stP t x l) e w':=by
 obtain ⟨v,hR,hT⟩:=hR;have hbw:=hR.rk.lt;have hmf:∀ (fn:Fn) (first cap:Array Value) (w:World),(Instr.makeFunc fn first cap).run Tryz.prog w = .ok (.func fn first cap) w:=fun _ _ _ _ => rfl
 have hk0:Ok (w.alloc (.cells #[.bool false] 4)) w.heap.size false:=heap_alloc_new _ _;have SC:=Lib.hid (step_c b s t x l v (w.alloc (.cells #[.bool false] 4)) (hR.of_bl ((Bl.refl _).alloc _)) (hT.of_bl ((Bl.refl _).alloc _)) ht hs hx hl (hE.of_bl ((Bl.refl _).alloc _)) hbE (hM.of_bl ((Bl.refl _).alloc _)) hbM);cases hst:stP t x l with
 | none =>
   rw [hst] at SC;clear hst
   go_enter_defers Tryz.func90,Tryz.ntmps90
   go_wp2_with (go_at_call 127; (with_reducible refine SC.out.mono ?_);rintro e w1 ⟨hB1,hF1,rfl,tz,hR1⟩);have hk1:Ok w1 w.heap.size false:=(hF1.block w.heap.size (by simp) (by omega) (fun cur => by rw [heap_alloc_new];simp)).trans hk0;obtain ⟨k1,k2⟩:=hk1.cells;have hlt:w.heap.size < w1.heap.size:=(Array.getElem?_eq_some_iff.1 hk1).1;refine leaves_cons (f:=126) (args:=#[.pointer (some ⟨w.heap.size,0,none⟩)]) (by simp) (by simp [go_sem]) ?_;refine (try1_caught w.heap.size false w1 hk1).mono ?_;rintro e u' w2 ⟨rfl,rfl,o,rfl⟩;have hR2:=(hR1.ok hk1 (by omega) (.bool false)).of_bl ((Bl.refl _).alloc o);have hB2:Below b w ((w1.setCell ⟨w.heap.size,0,none⟩ (.bool false)).alloc o):=Below.alloc (Below.setCell ((((Bl.refl w).alloc _).to_below b (Nat.le_of_lt hbw)).trans hB1) (Nat.le_of_lt hbw) _) (by simp;omega) o;have hcell:((w1.setCell ⟨w.heap.size,0,none⟩ (.bool false)).alloc o).cell? ⟨w.heap.size,0,none⟩ = some (.bool false):=by
    rw [World.cell?_alloc_old _ _ _ (by simp;omega)];exact World.cell?_setCell_same _ _ _ k1
   generalize (w1.setCell ⟨w.heap.size,0,none⟩ (.bool false)).alloc o = w3 at hR2 hB2 hcell ⊢;simp [Leaves,settle,results,Tryz.results90,go_sem,hcell];exact ⟨rfl,hB2,_,hR2⟩
 | some q =>
   obtain ⟨u,x', l'⟩:=q;rw [hst] at SC;clear hst
   go_enter_defers Tryz.func90,Tryz.ntmps90
   go_wp2_with (go_at_call 127; (with_reducible refine SC.out.mono ?_);rintro e w1 ⟨hB1,hF1,rfl,hR1⟩;have hk1:Ok w1 w.heap.size false:=(hF1.block w.heap.size (by simp) (by omega) (fun cur => by rw [heap_alloc_new];simp)).trans hk0;obtain ⟨k1,k2⟩:=hk1.cells);have hlt:w.heap.size < w1.heap.size:=(Array.getElem?_eq_some_iff.1 hk1).1;refine leaves_cons (f:=126) (args:=#[.pointer (some ⟨w.heap.size,0,none⟩)]) (by simp) (by simp [go_sem]) ?_;refine (try1_idle ⟨w.heap.size,0,none⟩ _).mono ?_;rintro e u' w2 ⟨rfl,rfl,rfl⟩;have hR2:=hR1.ok hk1 (by omega) (.bool true);have hB2:Below b w (w1.setCell ⟨w.heap.size,0,none⟩ (.bool true)):=Below.setCell ((((Bl.refl w).alloc _).to_below b (Nat.le_of_lt hbw)).trans hB1) (Nat.le_of_lt hbw) _;have hcell:(w1.setCell ⟨w.heap.size,0,none⟩ (.bool true)).cell? ⟨w.heap.size,0,none⟩ = some (.bool true):=World.cell?_setCell_same _ _ _ k1;generalize w1.setCell ⟨w.heap.size,0,none⟩ (.bool true) = w3 at hR2 hB2 hcell ⊢;simp [Leaves,settle,results,Tryz.results90,go_sem,hcell];exact ⟨rfl,hB2,hR2⟩
theorem own_base {w:World} {B B':Nat} {e:TypeId} {sz n:Nat} {v:Value} {xs:List Value} (h:w.ownsRow B e sz v n xs) (hB:B' ≤ B):w.ownsRow B' e sz v n xs:=by
 refine ⟨h.1,?_⟩;rcases h.2 with hn | ⟨k,cap,cur,rfl,hk,rest⟩
 · exact .inl hn
 · exact .inr ⟨k,cap,cur,rfl,Nat.le_trans hB hk,rest⟩
theorem TkO.base_le {w:World} {B B':Nat} {v:Value} {l:List Tok} (h:TkO w B v l) (hB:B' ≤ B):TkO w B' v l:=by
 obtain ⟨ents,h1,h2,h3⟩:=h;exact ⟨ents,h1,own_base h2 hB,fun p hp => (h3 p hp).base_le hB⟩
theorem all_c (s:List UInt8) (w:World) (hs:s.length ≤ 1000000000) (hE:ES w) (hM:ML w) :
 Calls Tryz.prog 70 #[.string ⟨s.toArray⟩] w fun e w' => ∃ v,e = .returned v∧TkO w' w.heap.size v (TokL s)∧Bl w w':=by
 have hbE:1 < w.heap.size:=by obtain ⟨_,_,h,_⟩:=hE;exact h
 have hbM:0 < w.heap.size:=by obtain ⟨_,h,_⟩:=hM;exact h
 have hR0:RT (w.alloc (.cells #[.string ⟨s.toArray⟩,.int .i64 0,.string ⟨#[]⟩,.slice none 0 0] 115)) w.heap.size s s [] []:=by
  refine ⟨.slice none 0 0,⟨?_,List.suffix_refl _⟩,TkO.nil _ _⟩;unfold Rk;rw [heap_alloc_new];simp
 go_enter Tryz.func70,Tryz.ntmps70;go_wp2;go_loopw [4] (fun _ wr => ∃ (t x:List UInt8) (l:List Tok),Hid (TokL s = tkP t x l)∧RT wr w.heap.size s t x l∧Bl w wr∧x.length + t.length ≤ s.length∧l.length + t.length ≤ s.length) (fun _ wr => s.length - atOf w.heap.size wr);case atStart => exact ⟨s,[],[],Lib.hid rfl,hR0,(Bl.refl _).alloc _,by simp,by simp⟩
 case round =>
  obtain ⟨t,x,l,HT,hRT,hbl,hxt,hlt⟩:=hrel;obtain ⟨v,hR,hT⟩:=hRT;have hln:=hR.len;have hmeas:=hR.meas;obtain ⟨a0,a1,a2,a3,f0,f1,f2,f3⟩:=hR.rk.cells;have hdr:=sfx_drop hR.sf;obtain ⟨K,hK⟩:∃ K,s.length - t.length = K:=⟨_,rfl⟩;rw [hK] at a1 hdr;have hE1:=hE.of_bl hbl;have hM1:=hM.of_bl hbl;by_cases ht:t = []
  · subst ht;have hKs:K = s.length:=by simpa using hK.symm
    subst hKs;have FC:=Lib.hid (flush_c w.heap.size s [] x l v wr hR hT (by omega) (by omega) hE1);have HF:=Lib.hid (show TokL s = flsh x l by rw [HT.out,tkP_nil]);clear hK hdr;go_wp2_with (go_at_call 91; (with_reducible refine FC.out.mono ?_);clear a0 a1 a2 a3 f0 f1 f2 f3;rintro e w1 ⟨rfl,⟨v1,hR1,hT1⟩,hF1⟩;obtain ⟨a0,a1,a2,a3,f0,f1,f2,f3⟩:=hR1.rk.cells);go_ret;refine ⟨v1,rfl,?_,?_⟩
    · rw [HF.out];exact hT1.base_le (Nat.le_succ _)
    · exact Below.trans hbl (hF1.below (fun j hj => by have:=(hT.lt j hj).1;omega) (Nat.le_of_lt hR.rk.lt))
  · have hKl:(K:Int) < (s.length:Int):=by have:=List.length_pos_iff.2 ht;omega
    have TC:=Lib.hid (try_c w.heap.size s t x l wr ⟨v,hR,hT⟩ ht (by omega) (by omega) (by omega) hE1 hbE hM1 hbM);have HS:=Lib.hid (tkP_st t x l ht);have HLN:=Lib.hid (stP_len t x l ht);have HDR:=Lib.hid hdr;have htl:=List.length_pos_iff.2 ht;clear hK hdr ht;cases hst:stP t x l with
    | none =>
      rw [hst] at TC;have HF:=Lib.hid (show TokL s = flsh (x ++ t) l by rw [HT.out,HS.out,hst]);clear hst;have hdl:(List.drop K s).length ≤ t.length:=by rw [HDR.out];exact Nat.le_refl _
      have FC:=Lib.hid (fun t1 v1 W h1 h2 h3 => flush_c w.heap.size s t1 (x ++ List.drop K s) l v1 W h1 h2 (by simp only [List.length_append];omega) (by omega) h3);go_wp2_with (first | (go_at_call 90; (with_reducible refine TC.out.mono ?_);clear a0 a1 a2 a3 f0 f1 f2 f3;rintro e w1 ⟨rfl,hB1,t1,v1,hR1,hT1⟩;obtain ⟨a0,a1,a2,a3,f0,f1,f2,f3⟩:=hR1.rk.cells;have hB1':=Below.trans hbl hB1;have hg2:=gb_set (b:=w.heap.size) (gb_refl _ w1) 2 (.string ⟨(x ++ List.drop K s).toArray⟩);have hR2:Rr _ w.heap.size s t1 (x ++ List.drop K s) v1:=⟨hR1.rk.set2 (x ++ List.drop K s),hR1.sf⟩;have hT2:=hT1.of_gb hg2 (Nat.lt_succ_self _);have hE2:=(hE.of_bl hB1').of_gb hg2 hbE;have hR3:=hR2.of_bl (b0_drew _);have hT3:=hT2.of_bl (b0_drew _);have hE3:=hE2.of_bl (b0_drew _)) | (go_at_call 91; (with_reducible refine (FC.out _ _ _ hR3 hT3 hE3).mono ?_);clear a0 a1 a2 a3 f0 f1 f2 f3;rintro e w4 ⟨rfl,⟨v4,hR4,hT4⟩,hF4⟩;obtain ⟨a0,a1,a2,a3,f0,f1,f2,f3⟩:=hR4.rk.cells) | go_region_with (fail));all_goals
       go_ret;refine ⟨v4,rfl,?_,?_⟩
       · rw [HF.out,← HDR.out];exact hT4.base_le (Nat.le_succ _)
       · exact Below.trans (Below.drew (Below.setCell hB1' (Nat.le_refl _) _)) (hF4.below (fun j hj => by have:=(hT3.lt j hj).1;omega) (Nat.le_of_lt hR3.rk.lt))
    | some q =>
      obtain ⟨u,x', l'⟩:=q;rw [hst] at TC;have HF:=Lib.hid (show TokL s = tkP u x' l' by rw [HT.out,HS.out,hst]);obtain ⟨n1,n2,n3⟩:=HLN.out u x' l' hst;clear hst;go_wp2_with (go_at_call 90; (with_reducible refine TC.out.mono ?_);clear a0 a1 a2 a3 f0 f1 f2 f3;rintro e w1 ⟨rfl,hB1,v1,hR1,hT1⟩);go_roundw;case rel => exact ⟨u,x', l', HF,⟨v1,hR1,hT1⟩,Below.trans hbl hB1,by omega,by omega⟩
      case measure => rw [hmeas,hR1.meas];exact n1
theorem addr_add0 (g i:Nat):(⟨g,0,none⟩:Addr).add i = ⟨g,i,none⟩:=by unfold Addr.add;split <;> simp_all
theorem TkO.tks {w:World} {base:Nat} {v:Value} {l:List Tok} (h:TkO w base v l):TkS w v l:=by
 obtain ⟨ents,rfl,h2,h3⟩:=h;have h':=h2;rcases h2.2 with ⟨rfl,h0⟩ | ⟨g,cap,cur,rfl,-,hg,-⟩
 · have:ents = []:=List.eq_nil_of_length_eq_zero h0;subst this;exact ⟨none,0,rfl,fun i hi => absurd hi (by simp)⟩
 · refine ⟨some ⟨g,0,none⟩,cap,by simp,fun i hi => ?_⟩;have hi':i < ents.length:=by simpa using hi
   obtain ⟨t1,t2,t3,t4⟩:=tkC_get ents i hi';have key:=fun j u h => World.ownsRow.cells h' (g:=g) rfl j u h
   simp only [addr_add0] at key;refine ⟨g,0,ents[i].2,rfl,(Array.getElem?_eq_some_iff.1 hg).1,?_,?_,?_,?_,?_,?_⟩
   · have:=key _ _ t1;simpa using this
   · have:=key _ _ t2;simpa using this
   · have:=key _ _ t3;simpa using this
   · have:=key _ _ t4;simpa using this
   · have:=(h3 ents[i] (List.getElem_mem hi')).ats;simpa using this
   · have:=h3 ents[i] (List.getElem_mem hi');rcases this.2 with ⟨e,_⟩ | ⟨g2,cap2,cur2,e,_,_,hc,_⟩
     · exact ⟨none,0,0,e,Nat.le_refl _⟩
     · exact ⟨_,_,_,e,hc⟩
theorem TkS.nil (w:World):TkS w (.slice none 0 0) []:=⟨none,0,rfl,fun i hi => absurd hi (by simp)⟩
end Go.Proofs.YthnpljkekhieiaaGreatDoor

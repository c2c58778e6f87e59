/- Shelves: entries that are the same; slices.Contains; put, whole. · Shelves: Put, where it finds something wrong. · Shelves: Put, where nothing is wrong. · Shelves: slices.BinarySearch of texts. · Shelves: slices.Delete of one text. -/
import Derived.Test.YthnpljkekhieiaaGreatDoorShU
import Derived.Laws.StructEq
import Derived.Deep.LoopGhost
set_option maxRecDepth 100000
set_option maxHeartbeats 8000000
namespace Go.Proofs.YthnpljkekhieiaaGreatDoor
open Go.RowKit
theorem putK_c (base b:Nat) (es:List Ent) (rd:List Nm) (x:Ent) (hl:es.length ≤ 100000) (hT:∀ y ∈ es,Tm y) (hx:Tm x) (w:World) (hK:KpS w base b es rd) (hbw:base ≤ w.heap.size) :
 Calls Tryz.prog 34 #[.pointer (some ⟨b,0,none⟩),enV x] w fun e w' => e = .returned (.tuple #[])∧KpS w' base b (putE es x) rd∧Below base w w':=by
 unfold putE;cases hp:plE es (eI x) with
 | none => exact put_none base b es rd x hl hT hx hp w hK hbw
 | some i =>
   obtain ⟨hi,_⟩:=plE_some hp;simp only [getD_get _ _ _ hi];by_cases hlt:eA x < eA es[i]
   · rw [if_pos hlt];exact put_old base b i es rd x hl hT hx hp hi hlt w hK hbw
   · rw [if_neg hlt];exact put_new base b i es rd x hl hT hx hp hi hlt w hK hbw
theorem eq_ent (a b:Ent) (W:World):(binOp .eql 36 (enV a) (enV b)).run Tryz.prog W = .ok (.bool (decide (a = b))) W:=by
 have hS:Tryz.prog.underlying 36 = some (.struct (Tryz.prog.fieldsOf 36)):=by kernel_rfl
 have hp:Tryz.prog.stoodInHeld 36 = false:=by kernel_rfl
 have hs:=Tryz.underlying9;have hi:=Tryz.underlying3;unfold enV;rw [run_eql_struct,show (10000:Nat) = 9999 + 1 from rfl,run_equalIn_agg W 9999 36 _ _ hS hp];simp only [Program.fieldsOf,Tryz.underlying36]
 go_simp
 obtain ⟨a1,a2,a3,a4,a5⟩:=a;obtain ⟨b1,b2,b3,b4,b5⟩:=b;simp only [eI,eT,eL,eA,eH];by_cases h1:a1 = b1 <;> by_cases h2:a2 = b2 <;> by_cases h3:a3 = b3 <;> by_cases h4:a4 = b4 <;> by_cases h5:a5 = b5 <;> simp [h1,h2,h3,h4,h5]
theorem indexE_c (l:List Ent) (v:Value) (x:Ent) (hn:l.length ≤ 1099511627776) (w:World) (hA:EnS w v l) :
 Calls Tryz.prog 58 #[v,enV x] w fun e w' => e = .returned (.int .i64 (ixB (fun i => decide (x = l.getD i zE)) l.length))∧Bl w w':=by
 obtain ⟨ao,cap,rfl,hcap,hA⟩:=hA;have hB0:=B5.new w x 36;have hmm:Tryz.prog.eqGuardType Tryz.prog.depth 36 = false:=by kernel_rfl
 have HQ:=Lib.hid (fun (y:Ent) W => eq_ent x y W);unfold enV at HQ ⊢;go_enter Tryz.func58,Tryz.ntmps58;go_wp2;go_loopw [8] (fun i wr => ∃ k:Nat,k ≤ l.length∧i = .int .i64 k∧Hid (∀ j,j < k → decide (x = l.getD j zE) = false)∧Bl (w.alloc (enO x 36)) wr) (fun i _ => l.length - (intOf i).toNat);case atStart => exact ⟨0,Nat.zero_le _,rfl,Lib.hid (fun j h => by omega),Bl.refl _⟩
 case round =>
  obtain ⟨k,hk,rfl,HP,hbl⟩:=hrel;have hww:Bl w wr:=Bl.trans ((Bl.refl _).alloc _) hbl;obtain ⟨l1,y0,y1,y2,y3,y4⟩:=hB0.of_bl hbl;by_cases hlt:k < l.length
  · obtain ⟨g,o,rfl,hg,h1,h2,h3,h4,h5⟩:=hA k hlt;have x1:=(hww.cells.1 g _ hg).trans h1;have x2:=(hww.cells.1 g _ hg).trans h2;have x3:=(hww.cells.1 g _ hg).trans h3;have x4:=(hww.cells.1 g _ hg).trans h4;have x5:=(hww.cells.1 g _ hg).trans h5;have hgd:l.getD k zE = l[k]:=getD_get _ _ _ hlt;have hq:=HQ.out l[k];clear h1 h2 h3 h4 h5 hA;by_cases he:x = l[k]
    · have hne:decide (x = l[k]) = true:=by simp [he]
      have HE:=Lib.hid he;clear he;go_wp2_with (go_quiet (fail));go_ret;exact ⟨ret_int (ixB_hit _ _ k hlt (by rw [hgd];exact decide_eq_true HE.out) HP.out).symm,hww.drewN _⟩
    · have hne:decide (x = l[k]) = false:=by simp [he]
      have HE:=Lib.hid he;clear he;go_wp2_with (go_quiet (fail));go_roundw;case rel =>
       refine ⟨k + 1,by omega,by go_num,Lib.hid (fun j hjk => ?_),hbl.drewN _⟩;by_cases e:j = k
       · subst e;rw [hgd];exact decide_eq_false HE.out
       · exact HP.out j (by omega)
      case measure => simp [intOf];omega
  · clear hA;go_wp2;go_ret;exact ⟨ret_int (ixB_miss _ _ (fun j hj => HP.out j (by omega))).symm,hww⟩
theorem any_eqE (l:List Ent) (x:Ent):((List.range l.length).any fun i => decide (x = l.getD i zE)) = l.contains x:=by
 rw [any_range (fun y => decide (x = y)) l zE,Bool.eq_iff_iff,List.any_eq_true,List.contains_iff_mem];constructor
 · rintro ⟨y,hy,h⟩;rw [of_decide_eq_true h];exact hy
 · intro h;exact ⟨x,h,by simp⟩
theorem containsE_c (l:List Ent) (v:Value) (x:Ent) (hn:l.length ≤ 1099511627776) (w:World) (hA:EnS w v l) :
 Calls Tryz.prog 35 #[v,enV x] w fun e w' => e = .returned (.bool (l.contains x))∧Bl w w':=by
 have hB0:=B5.new w x 36;have HX:=Lib.hid ((ixB_any (fun i => decide (x = l.getD i zE)) l.length).trans (any_eqE l x));have IC0:=fun W (hh:Bl w W) => indexE_c l v x hn W (hA.of_bl hh)
 unfold enV at IC0 ⊢;have IC:=Lib.hid IC0;obtain ⟨ao,cap,rfl,hcap,hA⟩:=hA;clear IC0 hA;obtain ⟨l1,y0,y1,y2,y3,y4⟩:=hB0;go_enter Tryz.func35,Tryz.ntmps35;go_wp2_with (go_at_call 58; (with_reducible refine (IC.out _ ((Bl.refl _).alloc _)).mono ?_);rintro e w' ⟨rfl,hb'⟩);go_ret;exact ⟨ret_bool HX.out,Bl.trans ((Bl.refl _).alloc _) hb'⟩
theorem results_cell3 {P:Program} {fn:Func} {p u1 u2:Tmp} {ty:TypeId} (h:fn.results = #[.cell p ty,.tmp u1,.tmp u2]) (tmps:Array Value) (w:World) (g:Nat) (t:TypeId) (cs:Array Value) (fr:Nat × Nat) (d:TypeDesc)
 (hp:tmps.getD p undef = .pointer (some ⟨g,0,none⟩)) (hg:w.heap[g]? = some (.cells cs t fr))
 (hu:P.underlying ty = some d) (hd:(match d with | .struct _ | .array _ _ => true | _ => false) = true) (hi:(P.info? ty).map (·.size) = some cs.size) :
 (results fn tmps).run P w = .ok (.tuple #[.agg cs,tmps.getD u1 undef,tmps.getD u2 undef]) w:=by
 have hp':tmps[p]?.getD undef = .pointer (some ⟨g,0,none⟩):=by simpa using hp
 simp [results,h,hp', asAddr,run_loadVar_row w g t ty cs fr d hg hu hd hi]
theorem results_cell2 {P:Program} {fn:Func} {p u1:Tmp} {ty:TypeId} (h:fn.results = #[.cell p ty,.tmp u1]) (tmps:Array Value) (w:World) (g:Nat) (t:TypeId) (cs:Array Value) (fr:Nat × Nat) (d:TypeDesc)
 (hp:tmps.getD p undef = .pointer (some ⟨g,0,none⟩)) (hg:w.heap[g]? = some (.cells cs t fr))
 (hu:P.underlying ty = some d) (hd:(match d with | .struct _ | .array _ _ => true | _ => false) = true) (hi:(P.info? ty).map (·.size) = some cs.size) :
 (results fn tmps).run P w = .ok (.tuple #[.agg cs,tmps.getD u1 undef]) w:=by
 have hp':tmps[p]?.getD undef = .pointer (some ⟨g,0,none⟩):=by simpa using hp
 simp [results,h,hp', asAddr,run_loadVar_row w g t ty cs fr d hg hu hd hi]
theorem Tryz.infoShf:(Tryz.prog.info? 25).map (·.size) = some 2:=by kernel_rfl
theorem set2 {w W:World} {q:Nat} {a b c d:Value} {t:TypeId} (h:W.heap[q]? = some (.cells #[a,b] t (0,0))) (hb:Bl w W) (hq:w.heap.size ≤ q) :
 ((W.setCell ⟨q,0,none⟩ c).setCell ⟨q,1,none⟩ d).heap[q]? = some (.cells #[c,d] t (0,0))∧Bl w ((W.setCell ⟨q,0,none⟩ c).setCell ⟨q,1,none⟩ d)∧W.grownBy ((W.setCell ⟨q,0,none⟩ c).setCell ⟨q,1,none⟩ d) (some q):=by
 obtain ⟨c1,h1,s1,e1⟩:=set_hp (o:=0) (v:=c) h;obtain ⟨c2,h2,s2,e2⟩:=set_hp (o:=1) (v:=d) h1;have hc:c2 = #[c,d]:=twoOf (by rw [s2,s1];rfl) (by rw [e2,if_neg (by omega),e1];rfl) (by rw [e2,s1];rfl);have hg:W.grownBy ((W.setCell ⟨q,0,none⟩ c).setCell ⟨q,1,none⟩ d) (some q):=World.grownBy.trans (setCells_gr q [c] 0 W) (setCells_gr q [d] 1 _);exact ⟨by rw [h2,hc],Below.trans hb (gr_below hg (Below.size hb) (fun k hk => by cases hk;exact hq)),hg⟩
theorem enC_none {l:List Ent} (h:∀ j (hj:j < l.length),chkE l[j] = 0):enC l = 0:=by
 unfold enC;rw [List.find?_eq_none.2 (fun x hx => by obtain ⟨j,hj,rfl⟩:=List.getElem_of_mem hx;simp [h j hj])]
theorem enC_first {l:List Ent} {k:Nat} (hk:k < l.length) (h:∀ j (hj:j < l.length),j < k → chkE l[j] = 0) (hc:chkE l[k] ≠ 0):enC l = chkE l[k]:=by
 unfold enC;rw [List.find?_eq_some_iff_getElem.2 ⟨by simpa using hc,k,hk,rfl,fun j hj => by simpa using h j (by omega) hj⟩]
theorem Put_bad1 (s:Shf) (v va:Value) (l:List Ent) (hI:∀ x ∈ s.1,(eI x).length ≤ 9223372036854775807) (_hl:l.length ≤ 9223372036854775807) (hc:ckS s ≠ 0) (w:World) (hE:ES w) (hM:ML w) (hS:ShS w v s) (hA:EnS w va l) :
 Calls Tryz.prog 13 #[v,va] w fun e w' => e = .returned (.tuple #[.agg #[.slice none 0 0,.slice none 0 0],.int .i64 0,.int .i64 (putC s l)])∧Bl w w':=by
 have CK:=Lib.hid (fun W (hh:Bl w W) => checkS_c s v hI W (hE.of_bl hh) (hM.of_bl hh) (hS.of_bl hh));obtain ⟨ve,vr,rfl,hEn,hRd⟩:=hS;obtain ⟨ao,cap,rfl,hcap,-⟩:=hEn;obtain ⟨ar,cr,rfl,hcr,-⟩:=hRd;have HA:=Lib.hid hA;obtain ⟨aa,ca,rfl,hca,hA⟩:=hA;obtain ⟨C,hC⟩:∃ C,C = ckS s:=⟨_,rfl⟩;rw [← hC] at CK;have hp:putC s l = C:=by unfold putC;rw [if_pos hc,hC]
 rw [← hC] at hc;rw [hp];clear hp hC hA;have hq0:((w.alloc (.cells #[.slice ao s.1.length cap,.slice ar s.2.length cr] 25)).alloc (.cells #[.slice none 0 0,.slice none 0 0] 25)).heap[w.heap.size + 1]? = some (.cells #[.slice none 0 0,.slice none 0 0] 25):=by
  have:=heap_alloc_new (w.alloc (.cells #[.slice ao s.1.length cap,.slice ar s.2.length cr] 25)) (.cells #[.slice none 0 0,.slice none 0 0] 25);simpa using this
 go_enter Tryz.func13,Tryz.ntmps13;go_wp2_with (go_at_call 11; (with_reducible refine (CK.out _ Bl.z).mono ?_);rintro e w1 ⟨rfl,hb1⟩;have hW1:Bl w w1:=Bl.trans Bl.z hb1;have hq1:=keep_bl hq0 hb1;obtain ⟨lq,q0,q1⟩:=keep_cells hq1;have f0:=frozen_of_row (j:=0) hq1;have f1:=frozen_of_row (j:=1) hq1);have HQ:=Lib.hid hq1;go_loopw [7,8] (fun c i wr => c = .int .i64 C∧i = .int .i64 0∧wr = w1) (fun _ _ _ => 0);case atStart => exact ⟨rfl,rfl,rfl⟩
 case round =>
  obtain ⟨rfl,rfl,rfl⟩:=hrel;go_wp2;all_goals
   refine bodyPost_ret (results_cell3 rfl _ _ (w.heap.size + 1) 25 #[.slice none 0 0,.slice none 0 0] (0,0) _ rfl (set2 HQ.out hW1 (by omega)).1 Tryz.underlying25 rfl Tryz.infoShf) rfl ?_;exact ⟨rfl,(set2 HQ.out hW1 (by omega)).2.1⟩
theorem Put_bad2 (s:Shf) (v va:Value) (l:List Ent) (hI:∀ x ∈ s.1,(eI x).length ≤ 9223372036854775807) (hl:l.length ≤ 9223372036854775807) (hc:ckS s = 0) (h12:12 < l.length) (w:World) (hE:ES w) (hM:ML w) (hS:ShS w v s) (hA:EnS w va l) :
 Calls Tryz.prog 13 #[v,va] w fun e w' => e = .returned (.tuple #[.agg #[.slice none 0 0,.slice none 0 0],.int .i64 0,.int .i64 (putC s l)])∧Bl w w':=by
 have CK:=Lib.hid (fun W (hh:Bl w W) => checkS_c s v hI W (hE.of_bl hh) (hM.of_bl hh) (hS.of_bl hh));obtain ⟨ve,vr,rfl,hEn,hRd⟩:=hS;obtain ⟨ao,cap,rfl,hcap,-⟩:=hEn;obtain ⟨ar,cr,rfl,hcr,-⟩:=hRd;have HA:=Lib.hid hA;obtain ⟨aa,ca,rfl,hca,hA⟩:=hA;obtain ⟨C,hC⟩:∃ C,C = ckS s:=⟨_,rfl⟩;rw [← hC] at CK;have hp:putC s l = 2:=by unfold putC;rw [if_neg (by rw [hc];simp),if_pos h12]
 have h12':(12:Int) < (l.length:Int):=by omega
 rw [hc] at hC;subst hC;rw [hp];clear hp hA hc;have hq0:((w.alloc (.cells #[.slice ao s.1.length cap,.slice ar s.2.length cr] 25)).alloc (.cells #[.slice none 0 0,.slice none 0 0] 25)).heap[w.heap.size + 1]? = some (.cells #[.slice none 0 0,.slice none 0 0] 25):=by
  have:=heap_alloc_new (w.alloc (.cells #[.slice ao s.1.length cap,.slice ar s.2.length cr] 25)) (.cells #[.slice none 0 0,.slice none 0 0] 25);simpa using this
 go_enter Tryz.func13,Tryz.ntmps13;go_wp2_with (go_at_call 11; (with_reducible refine (CK.out _ Bl.z).mono ?_);rintro e w1 ⟨rfl,hb1⟩;have hW1:Bl w w1:=Bl.trans Bl.z hb1;have hq1:=keep_bl hq0 hb1;obtain ⟨lq,q0,q1⟩:=keep_cells hq1;have f0:=frozen_of_row (j:=0) hq1;have f1:=frozen_of_row (j:=1) hq1);have HQ:=Lib.hid hq1;go_loopw [7,8] (fun c i wr => c = .int .i64 2∧i = .int .i64 0∧wr = w1) (fun _ _ _ => 0);case atStart => exact ⟨rfl,rfl,rfl⟩
 case round =>
  obtain ⟨rfl,rfl,rfl⟩:=hrel;go_wp2;all_goals
   refine bodyPost_ret (results_cell3 rfl _ _ (w.heap.size + 1) 25 #[.slice none 0 0,.slice none 0 0] (0,0) _ rfl (set2 HQ.out hW1 (by omega)).1 Tryz.underlying25 rfl Tryz.infoShf) rfl ?_;exact ⟨rfl,(set2 HQ.out hW1 (by omega)).2.1⟩
theorem Put_bad3 (s:Shf) (v va:Value) (l:List Ent) (hI:∀ x ∈ s.1,(eI x).length ≤ 9223372036854775807) (hl:l.length ≤ 9223372036854775807) (hc:ckS s = 0) (h12:¬ 12 < l.length) (he:enC l ≠ 0) (w:World) (hE:ES w) (hM:ML w) (hS:ShS w v s) (hA:EnS w va l) :
 Calls Tryz.prog 13 #[v,va] w fun e w' => e = .returned (.tuple #[.agg #[.slice none 0 0,.slice none 0 0],.int .i64 0,.int .i64 (putC s l)])∧Bl w w':=by
 have CK:=Lib.hid (fun W (hh:Bl w W) => checkS_c s v hI W (hE.of_bl hh) (hM.of_bl hh) (hS.of_bl hh));obtain ⟨ve,vr,rfl,hEn,hRd⟩:=hS;obtain ⟨ao,cap,rfl,hcap,-⟩:=hEn;obtain ⟨ar,cr,rfl,hcr,-⟩:=hRd;have HA:=Lib.hid hA;obtain ⟨aa,ca,rfl,hca,hA⟩:=hA;obtain ⟨C,hC⟩:∃ C,C = ckS s:=⟨_,rfl⟩;rw [← hC] at CK;have hp:putC s l = enC l:=by unfold putC;rw [if_neg (by rw [hc];simp),if_neg h12]
 rw [hp];have HAA:=Lib.hid hA;have HZ:=Lib.hid (fun (h:∀ j (hj:j < l.length),chkE l[j] = 0) => he (enC_none h));obtain ⟨C3,hC3⟩:∃ C3,enC l = C3:=⟨_,rfl⟩;have HC3:=Lib.hid hC3;rw [hC3] at he ⊢;clear hp hC3;have h12':¬ (12:Int) < (l.length:Int):=by omega
 rw [hc] at hC;subst hC;have CC0:=fun (x:Ent) W (hh:Bl w W) => chkE_c x W (hE.of_bl hh) (hM.of_bl hh)
 unfold enV at CC0;have CC:=Lib.hid CC0;clear CC0 hA hc;have hq0:((w.alloc (.cells #[.slice ao s.1.length cap,.slice ar s.2.length cr] 25)).alloc (.cells #[.slice none 0 0,.slice none 0 0] 25)).heap[w.heap.size + 1]? = some (.cells #[.slice none 0 0,.slice none 0 0] 25):=by
  have:=heap_alloc_new (w.alloc (.cells #[.slice ao s.1.length cap,.slice ar s.2.length cr] 25)) (.cells #[.slice none 0 0,.slice none 0 0] 25);simpa using this
 go_enter Tryz.func13,Tryz.ntmps13;go_wp2_with (go_at_call 11; (with_reducible refine (CK.out _ Bl.z).mono ?_);rintro e w1 ⟨rfl,hb1⟩;have hW1:Bl w w1:=Bl.trans Bl.z hb1;have hq1:=keep_bl hq0 hb1;obtain ⟨lq,q0,q1⟩:=keep_cells hq1;have f0:=frozen_of_row (j:=0) hq1;have f1:=frozen_of_row (j:=1) hq1);have HQ:=Lib.hid hq1;go_loopw [7,8] (fun c i wr => ∃ k:Nat,k ≤ l.length∧i = .int .i64 k∧Bl w1 wr∧((c = .int .i64 0∧Hid (∀ j (hj:j < l.length),j < k → chkE l[j] = 0)) ∨ c = .int .i64 C3)) (fun _ i _ => l.length - (intOf i).toNat);case atStart => exact ⟨0,Nat.zero_le _,rfl,Bl.refl _,.inl ⟨rfl,Lib.hid (fun j _ h => by omega)⟩⟩
 case round =>
  obtain ⟨k,hk,rfl,hbl,hd⟩:=hrel;rcases hd with ⟨rfl,HP⟩ | rfl
  · have hlt:k < l.length:=by
     rcases Nat.lt_or_ge k l.length with h | h
     · exact h
     · exact (HZ.out (fun j hj => HP.out j hj (by omega))).elim
    have hww:=hW1.trans hbl;obtain ⟨g,o,hao,hg,h1,h2,h3,h4,h5⟩:=HAA.out k hlt;subst hao;have x1:=(hww.cells.1 g _ hg).trans h1;have x2:=(hww.cells.1 g _ hg).trans h2;have x3:=(hww.cells.1 g _ hg).trans h3;have x4:=(hww.cells.1 g _ hg).trans h4;have x5:=(hww.cells.1 g _ hg).trans h5;clear h1 h2 h3 h4 h5;by_cases hz:chkE l[k] = 0
    · have HD:=Lib.hid hz;go_wp2_with (go_at_call 31; (with_reducible refine (CC.out l[k] _ hww).mono ?_);rintro e w2 ⟨rfl,hb2⟩);go_roundw;case rel =>
       refine ⟨k + 1,by omega,by go_num,hbl.trans hb2,.inl ⟨rfl,Lib.hid (fun j hj hjk => ?_)⟩⟩;by_cases e:j = k
       · subst e;exact HD.out
       · exact HP.out j hj (by omega)
      case measure => simp [intOf];omega
    · have HD:=Lib.hid hz;clear hz;go_wp2_with (go_at_call 31; (with_reducible refine (CC.out l[k] _ hww).mono ?_);rintro e w2 ⟨rfl,hb2⟩);go_roundw;case rel => exact ⟨k + 1,by omega,by go_num,hbl.trans hb2,.inr (by rw [← HC3.out,enC_first hlt HP.out HD.out])⟩
      case measure => simp [intOf];omega
  · have hww:=hW1.trans hbl;have hq2:=keep_bl HQ.out hbl;obtain ⟨lq2,q20,q21⟩:=keep_cells hq2;have g0:=frozen_of_row (j:=0) hq2;have g1:=frozen_of_row (j:=1) hq2;have HQ:=Lib.hid hq2;go_wp2;all_goals
     refine bodyPost_ret (results_cell3 rfl _ _ (w.heap.size + 1) 25 #[.slice none 0 0,.slice none 0 0] (0,0) _ rfl (set2 HQ.out hww (by omega)).1 Tryz.underlying25 rfl Tryz.infoShf) rfl ?_;exact ⟨rfl,(set2 HQ.out hww (by omega)).2.1⟩
theorem Put_bad (s:Shf) (v va:Value) (l:List Ent) (hI:∀ x ∈ s.1,(eI x).length ≤ 9223372036854775807) (hl:l.length ≤ 9223372036854775807) (hc:putC s l ≠ 0) (w:World) (hE:ES w) (hM:ML w) (hS:ShS w v s) (hA:EnS w va l) :
 Calls Tryz.prog 13 #[v,va] w fun e w' => e = .returned (.tuple #[.agg #[.slice none 0 0,.slice none 0 0],.int .i64 0,.int .i64 (putC s l)])∧Bl w w':=by
 by_cases h1:ckS s = 0
 · by_cases h2:12 < l.length
   · exact Put_bad2 s v va l hI hl h1 h2 w hE hM hS hA
   · exact Put_bad3 s v va l hI hl h1 h2 (by intro h;apply hc;unfold putC;rw [if_neg (by rw [h1];simp),if_neg h2,h]) w hE hM hS hA
 · exact Put_bad1 s v va l hI hl h1 w hE hM hS hA
theorem len_putE (l:List Ent) (x:Ent):(putE l x).length ≤ l.length + 1:=by
 unfold putE insE;cases h:plE l (eI x) with
 | none => simp only;rw [len_insA];exact Nat.le_refl _
 | some i =>
   simp only;split
   · omega
   · rw [len_insA];unfold delA;rw [List.length_append,List.length_take,List.length_drop];omega
theorem in_insA {l:List Ent} {i:Nat} {x y:Ent} (h:y ∈ insA l i x):y ∈ l ∨ y = x:=by
 unfold insA at h;rcases List.mem_append.1 h with h | h
 · exact .inl (List.mem_of_mem_take h)
 · rcases List.mem_cons.1 h with h | h
   · exact .inr h
   · exact .inl (List.mem_of_mem_drop h)
theorem in_putE {l:List Ent} {x y:Ent} (h:y ∈ putE l x):y ∈ l ∨ y = x:=by
 unfold putE insE at h;cases hp:plE l (eI x) with
 | none => rw [hp] at h;exact in_insA h
 | some i =>
   rw [hp] at h;simp only at h;split at h
   · exact .inl h
   · rcases in_insA h with h | h
     · exact .inl (in_delA h)
     · exact .inr h
theorem tm_putE {l:List Ent} {x:Ent} (hl:∀ y ∈ l,Tm y) (hx:Tm x):∀ y ∈ putE l x,Tm y:=fun y hy => by
 rcases in_putE hy with h | rfl
 · exact hl y h
 · exact hx
def acc (e l:List Ent) (k:Nat):List Ent:=(l.take k).foldl putE e
theorem acc_next {e l:List Ent} {k:Nat} (h:k < l.length):acc e l (k + 1) = putE (acc e l k) l[k]:=by
 unfold acc;rw [take_snoc l k h,List.foldl_append];rfl
theorem acc_len (e l:List Ent) (k:Nat):(acc e l k).length ≤ e.length + k:=by
 unfold acc;have:∀ (m e:List Ent),(m.foldl putE e).length ≤ e.length + m.length:=by
  intro m;induction m with
  | nil => intro e;simp
  | cons x m ih => intro e;have h1:=ih (putE e x);have h2:=len_putE e x;simp only [List.foldl_cons,List.length_cons];omega
 have h1:=this (l.take k) e;have h2:(l.take k).length ≤ k:=List.length_take_le _ _;omega
theorem acc_tm {e l:List Ent} (k:Nat) (he:∀ y ∈ e,Tm y) (hl:∀ y ∈ l,Tm y):∀ y ∈ acc e l k,Tm y:=by
 unfold acc;have:∀ (m e:List Ent),(∀ y ∈ e,Tm y) → (∀ y ∈ m,Tm y) → ∀ y ∈ m.foldl putE e,Tm y:=by
  intro m;induction m with
  | nil => intro e he _;exact he
  | cons x m ih => intro e he hm;exact ih _ (tm_putE he (hm x (by simp))) (fun y hy => hm y (by simp [hy]))
 exact this _ _ he (fun y hy => hl y (List.mem_of_mem_take hy))
theorem own_cut {w:World} {base size n cap:Nat} {e:TypeId} {ao:Option Addr} {xs:List Value} (h:w.ownsRow base e size (.slice ao n cap) n xs) (m:Nat) (hm:m ≤ n):w.ownsRow base e size (.slice ao m cap) m (xs.take (m * size)):=by
 obtain ⟨hl,h⟩:=h;have hms:m * size ≤ n * size:=Nat.mul_le_mul_right _ hm;refine ⟨by rw [List.length_take,hl];omega,?_⟩;rcases h with ⟨e0,hn⟩ | ⟨g,cap', cur,h1,h2,h3,h4,h5,h6,h7⟩
 · cases e0;obtain rfl:m = 0:=by omega
   exact .inl ⟨rfl,rfl⟩
 · cases h1;refine .inr ⟨g,_,cur,rfl,h2,h3,by omega,h5,h6,?_⟩;rw [← h7,List.take_take,Nat.min_eq_left hms]
theorem EnO.cut {w:World} {base n cap:Nat} {ao:Option Addr} {l:List Ent} (h:EnO w base (.slice ao n cap) l) (hn:n = l.length) (m:Nat) (hm:m ≤ n):EnO w base (.slice ao m cap) (l.take m):=by
 subst hn;unfold EnO at h ⊢;have hlm:(l.take m).length = m:=by rw [List.length_take];omega
 rw [hlm,enW_take l m hm];exact own_cut h m hm
theorem shelf_end {w W:World} {base q:Nat} {l:List Ent} {rd:List Nm} {ve vr:Value} (hO:EnO w base ve l) (hR:StO w base vr rd) (hg:w.grownBy W (some q)) (hq:q < base):ShS W (.agg #[ve,vr]) (l,rd):=by
 refine ⟨ve,vr,rfl,EnO.ens (base:=base) (own_same hO (fun k hk => ?_)),StO.sts (base:=base) (own_same hR (fun k hk => ?_))⟩
 · have h:=own_bas hO hk;exact hg.block k h.2 (fun e => by cases e;omega)
 · have h:=own_bas hR hk;exact hg.block k h.2 (fun e => by cases e;omega)
def fresh (s:Shf) (m:List Ent) (k:Nat):Nat:=((m.take k).filter fun x => !s.1.contains x).length
theorem fresh_le (s:Shf) (m:List Ent) (k:Nat):fresh s m k ≤ m.length:=Nat.le_trans (List.length_filter_le _ _) (by rw [List.length_take];omega)
theorem fresh_next (s:Shf) (m:List Ent) (k:Nat) (h:k < m.length):fresh s m (k + 1) = fresh s m k + if s.1.contains m[k] then 0 else 1:=by
 unfold fresh;rw [take_snoc m k h,List.filter_append,List.length_append];congr 1;cases hc:s.1.contains m[k] <;> simp only [List.filter_cons,List.filter_nil,hc] <;> rfl
theorem Put_ok (s:Shf) (v va:Value) (l:List Ent) (hI:∀ x ∈ s.1,(eI x).length ≤ 9223372036854775807) (hc:putC s l = 0) (w:World) (hE:ES w) (hM:ML w) (hS:ShS w v s) (hA:EnS w va l) :
 Calls Tryz.prog 13 #[v,va] w fun e w' => ∃ sv,e = .returned (.tuple #[sv,.int .i64 (putN s l),.int .i64 0])∧ShS w' sv (putL s l,s.2)∧Bl w w':=by
 obtain ⟨hRs,hl12,hch⟩:=(putC_iff s l).1 hc;have hck:ckS s = 0:=(ckS_iff s).2 hRs;obtain ⟨hs20,hs40,⟨-,-,hse⟩,-,-⟩:=hRs;have CK:=Lib.hid (fun W (hh:Bl w W) => checkS_c s v hI W (hE.of_bl hh) (hM.of_bl hh) (hS.of_bl hh));rw [hck] at CK;have OW:=Lib.hid (fun W (hh:Bl w W) => own_c s v (by omega) (by omega) W (hS.of_bl hh));have HS:=Lib.hid hS;have CN:=Lib.hid (fun W (hh:Bl w W) ve (hve:EnS w ve s.1) x => containsE_c s.1 ve x (by omega) W (hve.of_bl hh));obtain ⟨ve,vr,rfl,hEn,hRd⟩:=hS;have HEn:=Lib.hid hEn;obtain ⟨ao,cap,rfl,hcap,-⟩:=hEn;obtain ⟨ar,cr,rfl,hcr,-⟩:=hRd;obtain ⟨aa,ca,rfl,hca,hA⟩:=hA;have HAA:=Lib.hid hA;have HCH:=Lib.hid (show ∀ k (hk:k < l.length),chkE l[k] = 0 from fun k hk => hch _ (List.getElem_mem hk));have HTL:=Lib.hid (show ∀ y ∈ l,Tm y from fun y hy => tm_of (hch y hy));have HTS:=Lib.hid (show ∀ y ∈ s.1,Tm y from fun y hy => tm_of (hse y hy));have h12':¬ (12:Int) < (l.length:Int):=by omega
 have CC0:=fun (x:Ent) (hx:chkE x = 0) W (hh:Bl w W) => (chkE_c x W (hE.of_bl hh) (hM.of_bl hh)).mono (fun e w' h => by rw [hx] at h;exact h)
 have PC0:=fun base b es rd x (hl:es.length ≤ 100000) hT hx W hK hbw => putK_c base b es rd x hl hT hx W hK hbw
 unfold enV at CC0 PC0 CN;have CC:=Lib.hid CC0;have PC:=Lib.hid PC0;obtain ⟨W00,hW00⟩:∃ W00,W00 = ((w.alloc (.cells #[.slice ao s.1.length cap,.slice ar s.2.length cr] 25)).alloc (.cells #[.slice none 0 0,.slice none 0 0] 25)):=⟨_,rfl⟩;have hq0:W00.heap[w.heap.size + 1]? = some (.cells #[.slice none 0 0,.slice none 0 0] 25):=by
  have:=heap_alloc_new (w.alloc (.cells #[.slice ao s.1.length cap,.slice ar s.2.length cr] 25)) (.cells #[.slice none 0 0,.slice none 0 0] 25);rw [hW00];simpa using this
 have hp0:W00.heap[w.heap.size]? = some (.cells #[.slice ao s.1.length cap,.slice ar s.2.length cr] 25):=by
  rw [hW00];exact keep_bl (heap_alloc_new w (.cells #[.slice ao s.1.length cap,.slice ar s.2.length cr] 25)) ((Bl.refl _).alloc _)
 have hW0:Bl w W00:=by rw [hW00];exact ((Bl.refl _).alloc _).alloc _
 clear hE hM CC0 PC0 hc hck hA hch hse;subst hW00;go_enter Tryz.func13,Tryz.ntmps13;go_wp2_with (go_at_call 11; (with_reducible refine (CK.out _ Bl.z).mono ?_);rintro e w1 ⟨rfl,hb1⟩;have hW1:Bl w w1:=Bl.trans Bl.z hb1);go_loopw [7,8] (fun c i wr => ∃ k:Nat,k ≤ l.length∧i = .int .i64 k∧c = .int .i64 0∧Bl w1 wr) (fun _ i _ => l.length - (intOf i).toNat);case atStart => exact ⟨0,Nat.zero_le _,rfl,rfl,Bl.refl _⟩
 case round =>
  obtain ⟨k,hk,rfl,rfl,hbl⟩:=hrel;have hww:=hW1.trans hbl;by_cases hlt:k < l.length
  · obtain ⟨g,o,hao,hg,h1,h2,h3,h4,h5⟩:=HAA.out k hlt;subst hao;have x1:=(hww.cells.1 g _ hg).trans h1;have x2:=(hww.cells.1 g _ hg).trans h2;have x3:=(hww.cells.1 g _ hg).trans h3;have x4:=(hww.cells.1 g _ hg).trans h4;have x5:=(hww.cells.1 g _ hg).trans h5;clear h1 h2 h3 h4 h5;go_wp2_with (go_at_call 31; (with_reducible refine (CC.out l[k] (HCH.out k hlt) _ hww).mono ?_);rintro e w2 ⟨rfl,hb2⟩);go_roundw;case rel => exact ⟨k + 1,by omega,by go_num,rfl,hbl.trans hb2⟩
    case measure => simp [intOf];omega
  · obtain ⟨lp,p0,p1⟩:=keep_cells (keep_bl hp0 (hb1.trans hbl));go_wp2_with (go_at_call 24; (with_reducible refine (OW.out _ hww).mono ?_);rintro e w3 ⟨b,rfl,hK3,hb3⟩);have hb03:=(hb1.trans hbl).trans hb3;have hW3:=hW0.trans hb03;obtain ⟨w2,hw2⟩:∃ w2,w2 = wr:=⟨wr,rfl⟩;subst hw2;go_loopw [47] (fun i wz => ∃ k:Nat,k ≤ l.length∧i = .int .i64 k∧Bl w2 wz∧Hid (KpS wz w2.heap.size b (acc s.1 l k) s.2)) (fun i _ => l.length - (intOf i).toNat);case atStart => exact ⟨0,Nat.zero_le _,rfl,hb3,Lib.hid hK3⟩
    case round =>
     obtain ⟨j,hj,rfl,hblz,HK⟩:=hrel;have hwz:=hww.trans hblz;by_cases hlj:j < l.length
     · obtain ⟨g,o,hao,hg,h1,h2,h3,h4,h5⟩:=HAA.out j hlj;subst hao;have x1:=(hwz.cells.1 g _ hg).trans h1;have x2:=(hwz.cells.1 g _ hg).trans h2;have x3:=(hwz.cells.1 g _ hg).trans h3;have x4:=(hwz.cells.1 g _ hg).trans h4;have x5:=(hwz.cells.1 g _ hg).trans h5;clear h1 h2 h3 h4 h5;have hlen:=acc_len s.1 l j;have hle:(acc s.1 l j).length ≤ 100000:=by omega
       have hAc:=Lib.hid (acc_next (e:=s.1) hlj);have hsz:=Below.size hblz;go_wp2_with (go_at_call 34; (with_reducible refine (PC.out w2.heap.size b (acc s.1 l j) s.2 l[j] hle (acc_tm j HTS.out HTL.out) (HTL.out _ (List.getElem_mem hlj)) _ ?_ ?_).mono ?_); (exact HK.out.of_bl Bl.z); (exact Nat.le_trans hsz (Below.size (show Bl wr _ from Bl.z)));rintro e w5 ⟨rfl,hK5,hb5⟩);go_roundw;case rel => exact ⟨j + 1,by omega,by go_num,Below.trans (show Bl w2 _ from hblz.up) hb5,Lib.hid (by rw [hAc.out];exact hK5)⟩
       case measure => simp [intOf];omega
     · obtain rfl:j = l.length:=by omega
       obtain ⟨ve4,vr4,hb4,hbb4,hE4,hR4⟩:=HK.out;have hL20:=acc_len s.1 l l.length;have HPL:=Lib.hid (show (acc s.1 l l.length).take 20 = putL s l by unfold putL acc;rw [List.take_length]);obtain ⟨L,hL⟩:∃ L,L = acc s.1 l l.length:=⟨_,rfl⟩;rw [← hL] at HPL hE4 hL20;obtain ⟨ao4,c4,rfl,hc4⟩:=own_shp hE4;obtain ⟨ar4,cr4,rfl,-⟩:=own_shp hR4;obtain ⟨lk,k0,k1⟩:=keep_cells hb4;have d0:=frozen_of_row (j:=0) hb4;have HE4:=Lib.hid hE4;have HR4:=Lib.hid hR4;clear HK hL hE4 hR4 CC HAA HCH CK OW PC;go_wp2;go_region;have hm:(min (L.length:Int) 20).toNat = (putL s l).length:=by rw [← HPL.out,List.length_take];simp only [Nat.min_def];split <;> omega
       have hmL:(putL s l).length ≤ L.length:=by rw [← HPL.out,List.length_take];exact Nat.min_le_right _ _
       have hm20:(putL s l).length ≤ 20:=by rw [← HPL.out,List.length_take];exact Nat.min_le_left _ _
       have hcut:EnO wr w2.heap.size (.slice ao4 (putL s l).length c4) (putL s l):=by
        have h:=HE4.out.cut rfl (putL s l).length hmL;rwa [show L.take (putL s l).length = putL s l by rw [← HPL.out,List.length_take,← List.take_eq_take_min]] at h
       simp only [hm];obtain ⟨kd0,hOd0,hRd0,hBd0⟩:=kp_set0 hb4 hcut HR4.out hbb4 (Below.size hblz);have kd:=keep_bl kd0 ((Bl.refl _).drew);have hOd:=hOd0.of_bl ((Bl.refl _).drew);have hRd:=hRd0.of_bl ((Bl.refl _).drew);have hBd:Bl w2 _:=Below.trans hblz (Below.drew hBd0);clear kd0 hOd0 hRd0 hBd0 hcut hm HE4 HR4 hb4 d0 k0 k1 HTL HTS;generalize (wr.setCell ⟨b,0,none⟩ (.slice ao4 (putL s l).length c4)).drew = w5 at kd hOd hRd hBd ⊢;have hb05:=(hb1.trans hbl).trans hBd;obtain ⟨lp5,p50,p51⟩:=keep_cells (keep_bl hp0 hb05);obtain ⟨lk5,k50,k51⟩:=keep_cells kd;obtain ⟨aP,cP,hvP,hcP,hAP⟩:=hOd.ens;cases hvP;have HAP:=Lib.hid hAP;have HOd:=Lib.hid hOd;have HRd:=Lib.hid hRd;have HQ5:=Lib.hid (keep_bl hq0 hb05);clear hAP hOd hRd;have hW5:=hW0.trans hb05;go_wp2;go_loopw [12,78] (fun c i wz => ∃ k:Nat,k ≤ (putL s l).length∧i = .int .i64 k∧c = .int .i64 (fresh s (putL s l) k)∧Bl w5 wz) (fun _ i _ => (putL s l).length - (intOf i).toNat);case atStart => exact ⟨0,Nat.zero_le _,rfl,rfl,Bl.refl _⟩
       case round =>
        obtain ⟨k,hk,rfl,rfl,hblz⟩:=hrel;have hwz:=hW5.trans hblz;obtain ⟨lp6,p60,p61⟩:=keep_cells (keep_bl hp0 (hb05.trans hblz));by_cases hlt:k < (putL s l).length
        · obtain ⟨g,o,hao,hg,h1,h2,h3,h4,h5⟩:=HAP.out k hlt;subst hao;have x1:=(hblz.cells.1 g _ hg).trans h1;have x2:=(hblz.cells.1 g _ hg).trans h2;have x3:=(hblz.cells.1 g _ hg).trans h3;have x4:=(hblz.cells.1 g _ hg).trans h4;have x5:=(hblz.cells.1 g _ hg).trans h5;have hfk:=fresh_le s (putL s l) k;have hfb:fresh s (putL s l) k ≤ 20:=by omega
          have HFN:=Lib.hid (fresh_next s (putL s l) k hlt);clear h1 h2 h3 h4 h5;cases hct:s.1.contains (putL s l)[k]
          · have HCT:=Lib.hid hct;have CNk0:=fun W (hh:Bl w W) => CN.out W hh _ HEn.out (putL s l)[k]
            rw [hct] at CNk0;have CNk:=Lib.hid CNk0;clear CNk0 hct;go_wp2_with (go_at_call 35; (with_reducible refine (CNk.out _ ?_).mono ?_); (exact hwz.trans Bl.z);rintro e w6 ⟨rfl,hb6⟩);all_goals go_roundw
            case rel => exact ⟨k + 1,by omega,by go_num,by rw [HFN.out,HCT.out];rfl,hblz.trans (Bl.trans Bl.z hb6)⟩
            case measure => simp [intOf];omega
          · have HCT:=Lib.hid hct;have CNk0:=fun W (hh:Bl w W) => CN.out W hh _ HEn.out (putL s l)[k]
            rw [hct] at CNk0;have CNk:=Lib.hid CNk0;clear CNk0 hct;go_wp2_with (go_at_call 35; (with_reducible refine (CNk.out _ ?_).mono ?_); (exact hwz.trans Bl.z);rintro e w6 ⟨rfl,hb6⟩);all_goals go_roundw
            case rel => exact ⟨k + 1,by omega,by go_num,by rw [HFN.out,HCT.out];rfl,hblz.trans (Bl.trans Bl.z hb6)⟩
            case measure => simp [intOf];omega
        · obtain rfl:k = (putL s l).length:=by omega
          have HF:=Lib.hid (show (fresh s (putL s l) (putL s l).length:Int) = putN s l by unfold fresh putN;rw [List.take_length]);have kd6:=keep_bl kd hblz;obtain ⟨lk6,k60,k61⟩:=keep_cells kd6;have hq6:=keep_bl HQ5.out hblz;obtain ⟨lq6,q60,q61⟩:=keep_cells hq6;have g0:=frozen_of_row (j:=0) hq6;have g1:=frozen_of_row (j:=1) hq6;have HQ6:=Lib.hid hq6;have HLT:=Lib.hid (show w.heap.size + 1 < w2.heap.size from (Array.getElem?_eq_some_iff.1 (keep_bl hq0 (hb1.trans hbl))).1);go_wp2;refine bodyPost_ret (results_cell3 rfl _ _ (w.heap.size + 1) 25 #[.slice ao4 (putL s l).length c4,.slice ar4 s.2.length cr4] (0,0) _ rfl (set2 HQ6.out hwz (by omega)).1 Tryz.underlying25 rfl Tryz.infoShf) rfl ?_;have h2:=set2 (c:=.slice ao4 (putL s l).length c4) (d:=.slice ar4 s.2.length cr4) HQ6.out hwz (by omega);exact ⟨_,by rw [← HF.out];rfl,shelf_end (HOd.out.of_bl hblz) (HRd.out.of_bl hblz) h2.2.2 HLT.out,h2.2.1⟩
theorem ret_ib {i:Int} {a b:Bool} (h:a = b):Ending.returned (.tuple #[.int .i64 i,.bool a]) = .returned (.tuple #[.int .i64 i,.bool b]):=by rw [h]
theorem isNaNc_c (x:Nm) (w:World):Calls Tryz.prog 65 #[.string ⟨x.toArray⟩] w fun e w' => e = .returned (.bool false)∧w = w':=by
 go_enter Tryz.func65,Tryz.ntmps65;go_wp2;go_ret;exact ⟨by simp,rfl⟩
theorem isNaNs_c (x:Nm) (w:World):Calls Tryz.prog 48 #[.string ⟨x.toArray⟩] w fun e w' => e = .returned (.bool false)∧w = w':=by
 go_enter Tryz.func48,Tryz.ntmps48;go_wp2;go_ret;exact ⟨by simp,rfl⟩
theorem lessS_c (x y:Nm) (w:World):Calls Tryz.prog 47 #[.string ⟨x.toArray⟩,.string ⟨y.toArray⟩] w fun e w' => e = .returned (.bool (Op.bytesLess x y))∧w = w':=by
 go_enter Tryz.func47,Tryz.ntmps47;go_wp2_with (go_at_call 65; (with_reducible refine (isNaNc_c _ _).mono ?_);rintro e w' ⟨rfl,rfl⟩);go_ret;exact ⟨by simp,rfl⟩
theorem bst_c (l:List Nm) (v:Value) (x:Nm) (hl:l.length ≤ 1000000) (w:World) (hA:StS w v l) :
 Calls Tryz.prog 26 #[v,.string ⟨x.toArray⟩] w fun e w' => e = .returned (.tuple #[.int .i64 (bsT l x),.bool (fnT l x)])∧Qt w w':=by
 obtain ⟨ao,cap,rfl,hcap,hA⟩:=hA;have hmix:Tryz.prog.follows .mixedOrders = true:=by kernel_rfl
 obtain ⟨I,hI⟩:∃ I,I = bsT l x:=⟨_,rfl⟩;have HI:=Lib.hid hI;have HF:=Lib.hid (show fnT l x = decide (I < l.length∧l.getD I [] = x) by rw [hI];rfl);rw [← hI];clear hI;go_enter Tryz.func26,Tryz.ntmps26;go_wp2
 go_loopg [7,8] l.length (fun gg s7 s8 wr => ∃ lo hi:Nat,s7 = .int .i64 lo∧s8 = .int .i64 hi∧lo ≤ hi∧hi ≤ l.length∧hi - lo ≤ gg∧Qt w wr∧Hid (Lib.bsGo (fun t => Op.bytesLess (l.getD t []) x) gg lo hi = I))
 case atStart => exact ⟨0,l.length,rfl,rfl,Nat.zero_le _,Nat.le_refl _,by omega,Qt.refl _,Lib.hid HI.out.symm⟩
 case round =>
  obtain ⟨lo,hi,rfl,rfl,hlh,hin,hg,hq,HP⟩:=hrel;by_cases hlt:lo < hi
  · obtain ⟨k,hk⟩:∃ k,k = (lo + hi) / 2:=⟨_,rfl⟩;have hkl:k < l.length:=by omega
    obtain ⟨g,o,rfl,hgl,h1⟩:=hA k hkl;have x1:=(hq.bl.cells.1 g _ hgl).trans h1;obtain ⟨gj,hgj⟩:∃ gj,gk = gj + 1:=⟨gk - 1,by omega⟩;have HP2:=Lib.hid (show (if Op.bytesLess l[k] x = true then Lib.bsGo (fun t => Op.bytesLess (l.getD t []) x) gj (k + 1) hi else Lib.bsGo (fun t => Op.bytesLess (l.getD t []) x) gj lo k) = I by
     have:=HP.out;rw [hgj,Lib.bsGo,if_pos hlt,← hk] at this;rw [getD_get _ _ _ hkl] at this;exact this)
    obtain ⟨y,hy⟩:∃ y,y = l[k]:=⟨_,rfl⟩;rw [← hy] at x1 HP2;clear h1 hA hy;have hdiv:((lo:Int) + (hi:Int)) / 2 = (k:Int):=by omega
    have HK:=Lib.hid hk;have HGJ:=Lib.hid hgj;have hk1:k < hi:=by omega
    have hk2:lo ≤ k:=by omega
    clear hk hgj;cases hyx:Op.bytesLess y x
    · have HP3:=Lib.hid (show Lib.bsGo (fun t => Op.bytesLess (l.getD t []) x) gj lo k = I by have:=HP2.out;rw [hyx] at this;simpa using this);have LC0:=fun W => lessS_c y x W
      rw [hyx] at LC0;have LC:=Lib.hid LC0;clear LC0 hyx;go_wp2_with (first | (go_at_call 47; (with_reducible refine (LC.out _).mono ?_);rintro e w' ⟨rfl,rfl⟩) | (go_at_call 48; (with_reducible refine (isNaNs_c _ _).mono ?_);rintro e w' ⟨rfl,rfl⟩))
      go_roundg gj
      case measure => have:=HGJ.out;omega
      case rel => exact ⟨lo,k,rfl,rfl,by omega,by omega,by have:=HGJ.out;have:=HK.out;omega,by first | exact hq | exact hq.drewN _,HP3⟩
    · have HP3:=Lib.hid (show Lib.bsGo (fun t => Op.bytesLess (l.getD t []) x) gj (k + 1) hi = I by have:=HP2.out;rw [hyx] at this;simpa using this);have LC0:=fun W => lessS_c y x W
      rw [hyx] at LC0;have LC:=Lib.hid LC0;clear LC0 hyx;go_wp2_with (first | (go_at_call 47; (with_reducible refine (LC.out _).mono ?_);rintro e w' ⟨rfl,rfl⟩) | (go_at_call 48; (with_reducible refine (isNaNs_c _ _).mono ?_);rintro e w' ⟨rfl,rfl⟩))
      go_roundg gj
      case measure => have:=HGJ.out;omega
      case rel => exact ⟨k + 1,hi,by first | rfl | (push_cast;rfl),rfl,by omega,hin,by have:=HGJ.out;have:=HK.out;omega,by first | exact hq | exact hq.drewN _,HP3⟩
  · have hI:I = lo:=by
     have:=HP.out;rw [← this];cases gk with
     | zero => rfl
     | succ f => rw [Lib.bsGo,if_neg hlt]
    subst hI;obtain rfl:hi = I:=by omega
    by_cases hn:hi < l.length
    · obtain ⟨g,o,rfl,hgl,h1⟩:=hA hi hn;have x1:=(hq.bl.cells.1 g _ hgl).trans h1;have hgd:l.getD hi [] = l[hi]:=getD_get _ _ _ hn;rw [hgd] at HF;obtain ⟨y,hy⟩:∃ y,y = l[hi]:=⟨_,rfl⟩;rw [← hy] at x1 HF;clear h1 hA hy hgd;by_cases hyx:y = x
      · have HF2:=Lib.hid (HF.out.trans (decide_eq_true ⟨hn,hyx⟩));subst hyx;clear HF;go_wp2_with (first | (go_at_call 47; (with_reducible refine (LC.out _).mono ?_);rintro e w' ⟨rfl,rfl⟩) | (go_at_call 48; (with_reducible refine (isNaNs_c _ _).mono ?_);rintro e w' ⟨rfl,rfl⟩));go_ret2;exact ⟨ret_ib HF2.out.symm,by first | exact hq | exact hq.drewN _⟩
      · have HF2:=Lib.hid (HF.out.trans (decide_eq_false (fun h => hyx h.2)));have hne:(y == x) = false:=by simpa using hyx
        clear HF;go_wp2_with (first | (go_at_call 47; (with_reducible refine (LC.out _).mono ?_);rintro e w' ⟨rfl,rfl⟩) | (go_at_call 48; (with_reducible refine (isNaNs_c _ _).mono ?_);rintro e w' ⟨rfl,rfl⟩));all_goals
         go_ret2;exact ⟨ret_ib HF2.out.symm,by first | exact hq | exact hq.drewN _⟩
    · have HF2:=Lib.hid (HF.out.trans (decide_eq_false (fun h => hn h.1)));clear HF hA;go_wp2_with (first | (go_at_call 47; (with_reducible refine (LC.out _).mono ?_);rintro e w' ⟨rfl,rfl⟩) | (go_at_call 48; (with_reducible refine (isNaNs_c _ _).mono ?_);rintro e w' ⟨rfl,rfl⟩));all_goals
       go_ret2;exact ⟨ret_ib HF2.out.symm,by first | exact hq | exact hq.drewN _⟩
theorem zeroCells_str (k:Nat):(Builtin.zeroCells (Value.string ⟨#[]⟩).cells k).toList = strV (List.replicate k []):=by
 apply List.ext_getElem?;intro j;by_cases h:j < k
 · have e1:(strV (List.replicate k []))[j]? = some (.string ⟨#[]⟩):=by
    rw [strV_at _ j (by rw [List.length_replicate];exact h),List.getElem_replicate]
   rw [e1];unfold Builtin.zeroCells;have h2:j < k * (Value.string ⟨#[]⟩).cells.size:=by show j < k * 1;omega
   simp only [Array.toList_map,List.getElem?_map,Array.getElem?_toList];rw [show (Array.range (k * (Value.string ⟨#[]⟩).cells.size))[j]? = some j by simp [h2]];show some ((#[Value.string ⟨#[]⟩]:Array Value)[j % 1]!) = _;rw [Nat.mod_one];rfl
 · rw [List.getElem?_eq_none (l:=strV (List.replicate k [])) (by rw [strV_len,List.length_replicate];omega),List.getElem?_eq_none];unfold Builtin.zeroCells;rw [Array.length_toList,Array.size_map,Array.size_range];show k * 1 ≤ j;omega
theorem zv_str (w:World):(zeroValue 9).run Tryz.prog w = .ok (.string ⟨#[]⟩) w:=by kernel_rfl
theorem run_clear_str (w:World) (ty:TypeId) (g o n c:Nat) (cur:Array Value) (hg:w.heap[g]? = some (.cells cur 9 (0,0))) (hn:0 < n) (hc:o + n ≤ cur.size) :
 (Builtin.clear_ #[23] ty #[.slice (some ⟨g,o,none⟩) n c]).run Tryz.prog w = .ok (.tuple #[]) (w.setCells g o (strV (List.replicate n []))):=by
 have hl:(strV (List.replicate n [])).length = n:=by rw [strV_len,List.length_replicate]
 have hst:=run_storeCells_cells (P:=Tryz.prog) g o (strV (List.replicate n [])) 0 w (fun j hj => by
  rw [hl] at hj;rw [Nat.add_zero,cell_of_row hg,Array.getElem?_eq_getElem (by omega)];rfl) (fun j _ => frozen_of_row hg) (strV_one _)
 simp only [Nat.add_zero] at hst;have hzc:=zeroCells_str n;obtain ⟨m,rfl⟩:∃ m,n = m + 1:=⟨n - 1,by omega⟩;have hz:=zv_str;simp only [Builtin.clear_,List.getElem?_toArray,List.getElem?_cons_zero,Sem.run_bind,run_underlying Tryz.underlying23,Result.andThen_ok,hz,hzc,hst,Sem.run_pure]
theorem delS_c (base:Nat) (l:List Nm) (v:Value) (i:Nat) (hi':i < l.length) (hl:l.length ≤ 1000000) (w:World) (hO:StO w base v l) :
 Calls Tryz.prog 28 #[v,.int .i64 i,.int .i64 ((i:Int) + 1)] w fun e w' => ∃ v', e = .returned v' ∧ StO w' base v' (delA l i)∧v'.ownBlock = v.ownBlock∧w.grownBy w' v.ownBlock:=by
 obtain ⟨i0,hi,hz0,hz1,hz2⟩:=info_parts Tryz.infoStr;obtain ⟨g,cap,cur,rfl,hbg,hg,hnc,hcm,hcs,hcur⟩:=own_rowE hO (by omega);have hgl:g < w.heap.size:=(Array.getElem?_eq_some_iff.1 hg).1;obtain ⟨m,hm⟩:∃ m,l.length = i + 1 + m:=⟨l.length - (i + 1),by omega⟩;have hdl:(l.drop (i + 1)).length = m:=by rw [List.length_drop];omega
 have htl:(l.take i).length = i:=by rw [List.length_take];omega
 have hown0:w.ownsRow base 9 1 (.slice (some ⟨g,0,none⟩) i cap) i (strV (l.take i)):=by
  refine own_mk hbg hg (by omega) hcm hcs (by rw [strV_lenK,htl]) (fun j hj => ?_);rw [hcur j (by omega),strV_take l i (by omega),List.getElem?_take,if_pos hj]
 obtain ⟨A,hA,hsrc⟩:∃ A:Addr,(if cap = i + 1 then (some ⟨g,0,none⟩:Option Addr) else some ⟨g,i + 1,none⟩) = some A∧Hid (∀ j u,(strV (l.drop (i + 1)))[j]? = some u → w.cell? (A.add j) = some u):=by
  by_cases h:cap = i + 1
  · refine ⟨⟨g,0,none⟩,by rw [if_pos h],Lib.hid (fun j u hu => ?_)⟩;have h0:m = 0:=by omega
    rw [List.eq_nil_of_length_eq_zero (hdl.trans h0)] at hu;simp [strV] at hu
  · refine ⟨⟨g,i + 1,none⟩,by rw [if_neg h],Lib.hid (fun j u hu => ?_)⟩;rw [addr_at,cell_of_row hg];have hj:j < m * 1:=by
     have:=(List.getElem?_eq_some_iff.1 hu).1;rw [strV_lenK,hdl] at this;exact this
    rw [hcur _ (by omega),← hu,strV_drop l (i + 1) (by omega),List.getElem?_drop,Nat.mul_one]
 have hlen:=Lib.hid (show (delA l i).length = i + m by rw [len_delA l i hi'];omega);have hstrV:=Lib.hid (show strV (delA l i) = strV (l.take i) ++ strV (l.drop (i + 1)) by unfold delA;rw [strV_app]);have hdl5:=Lib.hid (show (strV (l.drop (i + 1))).length = m * 1 by rw [strV_lenK,hdl]);have hone:=Lib.hid (strV_one (l.drop (i + 1)));have HO0:=Lib.hid hown0;have hic:i + m ≤ cap:=by omega
 have hic1:i + 1 ≤ cap:=by omega
 have hii:i ≤ cap:=by omega
 have hz3:(0:Int) ≤ (i:Int) + 1:=by omega
 have hz4:(i:Int) + 1 ≤ (i:Int) + 1 + (m:Int):=by omega
 have hic2:¬ cap = i + m:=by omega
 have hll:l.length - (i + 1) = m:=by omega
 have hl1:(l.length:Int) = (i:Int) + 1 + (m:Int):=by omega
 have hw1:IntKind.i64.wrap ((i:Int) + 1) = (i:Int) + 1:=by rw [IntKind.wrap_i64];omega
 clear hO hg hcur hown0 htl hdl;go_enter Tryz.func28,Tryz.ntmps28;go_wp2_with fail
 go_region_law (go_loud (refine step_append_fits rfl (.tmp 22) (.tmp 25) 23 rfl base 9 i0 1 Tryz.underlying23 hi hz1 g i cap (strV (l.take i)) (by simp [Act.eval,Act.put]) (own_bl HO0.out ((Bl.refl _).drew)) A m (cap - (i + 1)) (strV (l.drop (i + 1))) (by simp [Act.eval,Act.put]) hdl5.out hsrc.out hone.out hic ?_;intro w1 hown1 hgr1))
 obtain ⟨_,cur1,hg1,_,_,hcs1,hcur1⟩:=own_rowS hown1;have hcl:=fun ty c => run_clear_str w1 ty g ((i + m)) 1 c cur1 hg1 (by decide) (by rw [hcs1];omega)
 have hsub:i + 1 + m - (i + m) = 1:=by omega
 have hz5:(i:Int) + (m:Int) ≤ (i:Int) + 1 + (m:Int):=by omega
 have hz6:(i:Int) + 1 + (m:Int) ≤ (cap:Int):=by omega
 have hz7:(0:Int) ≤ (i:Int) + (m:Int):=by omega
 have hz8:((i:Int) + 1 + (m:Int)).toNat = i + 1 + m:=by omega
 have hz9:((i:Int) + (m:Int)).toNat = i + m:=by omega
 have hz10:(0:Int) ≤ (i:Int) + 1 + (m:Int):=by omega
 obtain ⟨cur2,hg2,hcs2,hcur2⟩:=setCells_hp g _ _ (strV (List.replicate 1 [])) ((i + m)) w1 cur1 hg1;have HG2:=Lib.hid hg2;have HC2:=Lib.hid hcur2;have HCS2:=Lib.hid hcs2;have HO1:=Lib.hid hown1;have HGR:=Lib.hid hgr1;obtain ⟨w2,hw2⟩:∃ w2,w2 = w1.setCells g ((i + m)) (strV (List.replicate 1 [])):=⟨_,rfl⟩;have HW2:=Lib.hid hw2;rw [← hw2] at hcl;clear hg2 hcur2 hcs2 hown1 hgr1 hw2;go_wp2;go_ret;have hgr2:w.grownBy w2 (some g):=by
  rw [HW2.out];exact World.grownBy.trans (bl_gr ((Bl.refl _).drew) HGR.out) (setCells_gr _ _ _ _)
 refine ⟨_,rfl,?_,rfl,hgr2⟩;unfold StO;rw [hlen.out,hstrV.out];rw [← HW2.out] at HG2;refine own_mk hbg HG2.out (by omega) hcm (by rw [HCS2.out,hcs1]) HO1.out.1 (fun j hj => ?_);rw [HC2.out j,if_neg (by omega)];exact hcur1 j hj
end Go.Proofs.YthnpljkekhieiaaGreatDoor

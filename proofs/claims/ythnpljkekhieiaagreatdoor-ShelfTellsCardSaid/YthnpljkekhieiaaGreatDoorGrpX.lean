/- Shelves: what is tried once. · Shelves: what is tried once comes out right. · Shelves: the law ShelfMarks. -/
import Derived.Test.YthnpljkekhieiaaGreatDoorGrpW
set_option maxRecDepth 100000
set_option maxHeartbeats 8000000
namespace Go.Proofs.YthnpljkekhieiaaGreatDoor
open Go.RowKit
def rackE:Ent:=([98],[78,101,119],[],9,[60,98,62,120,60,47,98,62,121])
def rackF:Ent:=([97],[],[],5,[])
def rackS:Shf:=([rackE,rackF],[[97]])
def newC:Ent:=([99],[],[],7,[])
def newB:Ent:=([98],[],[],8,[])
theorem r1:chkE rackE = 0:=by decide +kernel
theorem r2:chkE rackF = 0:=by decide +kernel
theorem r3:chkE newC = 0:=by decide +kernel
theorem r4:chkE newB = 0:=by decide +kernel
theorem r5:ckS rackS = 0:=by decide +kernel
theorem r6:putC rackS [newC,newB] = 0:=by decide +kernel
theorem r7:putL rackS [newC,newB] = [rackE,newC,rackF]:=by decide +kernel
theorem r8:putN rackS [newC,newB] = 1:=by decide +kernel
theorem r9:mkC rackS [98] true = 0:=by decide +kernel
theorem r10:mkR rackS [98] true = [[97],[98]]:=by decide +kernel
theorem r11:drL rackS = [rackE]:=by decide +kernel
theorem r12:unL rackS = [[98]]:=by decide +kernel
def putS (s:Shf) (l:List Ent):Shf:=if putC s l = 0 then (putL s l,s.2) else ([],[])
def putM (s:Shf) (l:List Ent):Int:=if putC s l = 0 then putN s l else 0
theorem shs_nil (w:World):ShS w (.agg #[.slice none 0 0,.slice none 0 0]) ([],[]):=⟨_,_,rfl,EnS.nil w,⟨none,0,rfl,Nat.le_refl _,fun i hi => absurd hi (by simp)⟩⟩
theorem PutS_c (s:Shf) (v va:Value) (l:List Ent) (hI:∀ x ∈ s.1,(eI x).length ≤ 9223372036854775807) (hl:l.length ≤ 9223372036854775807) (w:World) (hE:ES w) (hM:ML w) (hS:ShS w v s) (hA:EnS w va l) :
 Calls Tryz.prog 13 #[v,va] w fun e w' => ∃ sv,e = .returned (.tuple #[sv,.int .i64 (putM s l),.int .i64 (putC s l)])∧ShS w' sv (putS s l)∧Bl w w':=by
 by_cases hc:putC s l = 0
 · refine (Put_ok s v va l hI hc w hE hM hS hA).mono ?_;rintro e w' ⟨sv,rfl,h1,h2⟩;exact ⟨sv,by unfold putM;rw [if_pos hc,hc],by unfold putS;rw [if_pos hc];exact h1,h2⟩
 · refine (Put_bad s v va l hI hl hc w hE hM hS hA).mono ?_;rintro e w' ⟨rfl,h2⟩;exact ⟨_,by unfold putM;rw [if_neg hc],by unfold putS;rw [if_neg hc];exact shs_nil _,h2⟩
def mkS (s:Shf) (i:Nm) (b:Bool):Shf:=if mkC s i b = 0 then (s.1,mkR s i b) else ([],[])
theorem MarkS_c (s:Shf) (v:Value) (i:Nm) (b:Bool) (hI:∀ x ∈ s.1,(eI x).length ≤ 9223372036854775807) (w:World) (hE:ES w) (hM:ML w) (hS:ShS w v s) :
 Calls Tryz.prog 8 #[v,.string ⟨i.toArray⟩,.bool b] w fun e w' => ∃ sv,e = .returned (.tuple #[sv,.int .i64 (mkC s i b)])∧ShS w' sv (mkS s i b)∧Bl w w':=by
 have bad:∀ c,c ≠ 0 → mkC s i b = c → (Calls Tryz.prog 8 #[v,.string ⟨i.toArray⟩,.bool b] w fun e w' => e = .returned (.tuple #[.agg #[.slice none 0 0,.slice none 0 0],.int .i64 c])∧Bl w w') →
  Calls Tryz.prog 8 #[v,.string ⟨i.toArray⟩,.bool b] w fun e w' => ∃ sv,e = .returned (.tuple #[sv,.int .i64 (mkC s i b)])∧ShS w' sv (mkS s i b)∧Bl w w':=fun c h1 h2 h => by
  refine h.mono ?_;rintro e w' ⟨rfl,hb⟩;exact ⟨_,by rw [h2],by unfold mkS;rw [if_neg (by rw [h2];exact h1)];exact shs_nil _,hb⟩
 have good:∀ r,mkC s i b = 0 → mkR s i b = r → (Calls Tryz.prog 8 #[v,.string ⟨i.toArray⟩,.bool b] w fun e w' => ∃ sv,e = .returned (.tuple #[sv,.int .i64 0])∧ShS w' sv (s.1,r)∧Bl w w') →
  Calls Tryz.prog 8 #[v,.string ⟨i.toArray⟩,.bool b] w fun e w' => ∃ sv,e = .returned (.tuple #[sv,.int .i64 (mkC s i b)])∧ShS w' sv (mkS s i b)∧Bl w w':=fun r h1 h2 h => by
  refine h.mono ?_;rintro e w' ⟨sv,rfl,hs,hb⟩;exact ⟨sv,by rw [h1],by unfold mkS;rw [if_pos h1,h2];exact hs,hb⟩
 by_cases hck:ckS s = 0
 · cases hp:plE s.1 i with
   | none => exact bad 5 (by decide) (by unfold mkC;rw [if_neg (by rw [hck];simp),if_pos hp]) (Mark_bad2 s v i hI b hck hp w hE hM hS)
   | some k =>
     have hc0:∀ q:Prop,[Decidable q] → (if ckS s ≠ 0 then ckS s else if plE s.1 i = none then 5 else if q then (2:Int) else 0) = if q then 2 else 0:=fun q _ => by rw [if_neg (by rw [hck];simp),if_neg (by rw [hp];simp)]
     cases b with
     | true =>
       cases hfn:fnT s.2 i with
       | false =>
         by_cases hf:s.2.length = 40
         · exact bad 2 (by decide) (by unfold mkC;rw [hc0,if_pos ⟨rfl,hfn,hf⟩]) (Mark_bad3 s v i hI k hck hp hfn hf w hE hM hS)
         · exact good _ (by unfold mkC;rw [hc0,if_neg (fun h => hf h.2.2)]) (by unfold mkR;rw [if_pos rfl,if_neg (by rw [hfn];simp)]) (Mark_ins s v i hI k hck hp hfn hf w hE hM hS)
       | true => exact good _ (by unfold mkC;rw [hc0,if_neg (fun h => by rw [hfn] at h;exact absurd h.2.1 (by simp))]) (by unfold mkR;rw [if_pos rfl,if_pos hfn]) (Mark_same1 s v i hI k hck hp hfn w hE hM hS)
     | false =>
       have hm:mkC s i false = 0:=by unfold mkC;rw [hc0,if_neg (fun h => absurd h.1 (by simp))]
       cases hfn:fnT s.2 i with
       | true => exact good _ hm (by unfold mkR;rw [if_neg (by simp),if_pos hfn]) (Mark_del s v i hI k hck hp hfn w hE hM hS)
       | false => exact good _ hm (by unfold mkR;rw [if_neg (by simp),if_neg (by rw [hfn];simp)]) (Mark_same2 s v i hI k hck hp hfn w hE hM hS)
 · exact bad (ckS s) hck (by unfold mkC;rw [if_pos hck]) (Mark_bad1 s v i hI b hck w hE hM hS)
def drS (s:Shf):Shf:=if ckS s = 0 then (drL s,s.2) else ([],[])
def drN (s:Shf):Int:=if ckS s = 0 then (s.1.length:Int) - (drL s).length else 0
theorem DropS_c (s:Shf) (v:Value) (hI:∀ x ∈ s.1,(eI x).length ≤ 9223372036854775807) (w:World) (hE:ES w) (hM:ML w) (hS:ShS w v s) :
 Calls Tryz.prog 10 #[v] w fun e w' => ∃ sv,e = .returned (.tuple #[sv,.int .i64 (drN s),.int .i64 (ckS s)])∧ShS w' sv (drS s)∧Bl w w':=by
 by_cases hc:ckS s = 0
 · refine (Drop_ok s v hI hc w hE hM hS).mono ?_;rintro e w' ⟨sv,rfl,h1,h2⟩;exact ⟨sv,by unfold drN;rw [if_pos hc,hc],by unfold drS;rw [if_pos hc];exact h1,h2⟩
 · refine (Drop_bad s v hI hc w hE hM hS).mono ?_;rintro e w' ⟨rfl,h2⟩;exact ⟨_,by unfold drN;rw [if_neg hc],by unfold drS;rw [if_neg hc];exact shs_nil _,h2⟩
def unS (s:Shf):List Nm:=if ckS s = 0 then unL s else []
theorem UnreadS_c (s:Shf) (v:Value) (hI:∀ x ∈ s.1,(eI x).length ≤ 9223372036854775807) (w:World) (hE:ES w) (hM:ML w) (hS:ShS w v s) :
 Calls Tryz.prog 9 #[v] w fun e w' => ∃ v', e = .returned (.tuple #[v', .int .i64 (ckS s)])∧StS w' v' (unS s)∧Bl w w':=by
 by_cases hc:ckS s = 0
 · refine (Unread_ok s v hI hc w hE hM hS).mono ?_;rintro e w' ⟨sv,rfl,h1,h2⟩;exact ⟨sv,by rw [hc],by unfold unS;rw [if_pos hc];exact h1,h2⟩
 · refine (Unread_bad s v hI hc w hE hM hS).mono ?_;rintro e w' ⟨rfl,h2⟩;exact ⟨_,rfl,by unfold unS;rw [if_neg hc];exact ⟨none,0,rfl,Nat.le_refl _,fun i hi => absurd hi (by simp)⟩,h2⟩
theorem rack_c (w:World):Calls Tryz.prog 23 #[] w fun e w' => ∃ sv,e = .returned sv∧ShS w' sv rackS∧Bl w w':=by
 go_enter Tryz.func23,Tryz.ntmps23;go_wp2;have h0:=heap_alloc_new w (.cells #[.slice (some ⟨w.heap.size + 1,0,none⟩) 2 2,.slice (some ⟨w.heap.size + 1 + 1,0,none⟩) 1 1] 25);have h1:=heap_alloc_new (w.alloc (.cells #[.slice (some ⟨w.heap.size + 1,0,none⟩) 2 2,.slice (some ⟨w.heap.size + 1 + 1,0,none⟩) 1 1] 25)) (.cells (enW [rackE,rackF]).toArray 36);have h2:=heap_alloc_new ((w.alloc (.cells #[.slice (some ⟨w.heap.size + 1,0,none⟩) 2 2,.slice (some ⟨w.heap.size + 1 + 1,0,none⟩) 1 1] 25)).alloc (.cells (enW [rackE,rackF]).toArray 36)) (.cells #[.string ⟨#[97]⟩] 9);have b1:∀ o o', Bl (w.alloc o) ((w.alloc o).alloc o'):=fun o o' => (Bl.refl _).alloc o'
 have g0:=keep_bl (keep_bl h0 ((Bl.refl _).alloc (.cells (enW [rackE,rackF]).toArray 36))) ((Bl.refl _).alloc (.cells #[.string ⟨#[97]⟩] 9));have g1:=keep_bl h1 ((Bl.refl _).alloc (.cells #[.string ⟨#[97]⟩] 9));have e1:(w.alloc (.cells #[.slice (some ⟨w.heap.size + 1,0,none⟩) 2 2,.slice (some ⟨w.heap.size + 1 + 1,0,none⟩) 1 1] 25)).heap.size = w.heap.size + 1:=by simp
 have e2:((w.alloc (.cells #[.slice (some ⟨w.heap.size + 1,0,none⟩) 2 2,.slice (some ⟨w.heap.size + 1 + 1,0,none⟩) 1 1] 25)).alloc (.cells (enW [rackE,rackF]).toArray 36)).heap.size = w.heap.size + 1 + 1:=by simp
 rw [e1] at g1;rw [e2] at h2;refine bodyPost_ret (results_cell_row rfl _ _ w.heap.size 25 #[.slice (some ⟨w.heap.size + 1,0,none⟩) 2 2,.slice (some ⟨w.heap.size + 1 + 1,0,none⟩) 1 1] (0,0) _ rfl g0 Tryz.underlying25 rfl Tryz.infoShf) rfl ?_;refine ⟨_,rfl,⟨_,_,rfl,EnS.of_cells (l:=[rackE,rackF]) rfl (by decide) (Array.getElem?_eq_some_iff.1 g1).1 (fun j u hj => ?_),⟨some ⟨w.heap.size + 1 + 1,0,none⟩,1,rfl,Nat.le_refl _,fun i hi => ⟨_,_,rfl,(Array.getElem?_eq_some_iff.1 h2).1,?_⟩⟩⟩,(((Bl.refl _).alloc _).alloc _).alloc _⟩
 · exact (cell_of_row g1).trans (by rw [Nat.zero_add];simpa using hj)
 · have hi:i < 1:=hi;obtain rfl:i = 0:=by omega
   exact cell_of_row h2
theorem hIr:∀ x ∈ rackS.1,(eI x).length ≤ 9223372036854775807:=by
 intro x hx;rcases List.mem_cons.1 hx with rfl | hx
 · decide
 · rcases List.mem_cons.1 hx with rfl | hx
   · decide
   · cases hx
theorem r6':putS rackS [newC,newB] = ([rackE,newC,rackF],[[97]]):=by unfold putS;rw [if_pos r6,r7];rfl
theorem r9':mkS rackS [98] true = ([rackE,rackF],[[97],[98]]):=by unfold mkS;rw [if_pos r9,r10];rfl
theorem r11':drS rackS = ([rackE],[[97]]):=by unfold drS;rw [if_pos r5,r11];rfl
theorem r12':unS rackS = [[98]]:=by unfold unS;rw [if_pos r5,r12]
theorem r13':putM rackS [newC,newB] = 1:=by unfold putM;rw [if_pos r6,r8]
theorem r14':drN rackS = 1:=by unfold drN;rw [if_pos r5,r11];rfl
theorem putR_c (v va:Value) (w:World) (hE:ES w) (hM:ML w) (hS:ShS w v rackS) (hA:EnS w va [newC,newB]) :
 Calls Tryz.prog 13 #[v,va] w fun e w' => ∃ sv,e = .returned (.tuple #[sv,.int .i64 1,.int .i64 0])∧ShS w' sv ([rackE,newC,rackF],[[97]])∧Bl w w':=by
 have h:=PutS_c rackS v va [newC,newB] hIr (by decide) w hE hM hS hA;rw [r13', r6,r6'] at h;exact h
theorem markR_c (v:Value) (w:World) (hE:ES w) (hM:ML w) (hS:ShS w v rackS) :
 Calls Tryz.prog 8 #[v,.string ⟨#[98]⟩,.bool true] w fun e w' => ∃ sv,e = .returned (.tuple #[sv,.int .i64 0])∧ShS w' sv ([rackE,rackF],[[97],[98]])∧Bl w w':=by
 have h:=MarkS_c rackS v [98] true hIr w hE hM hS;rw [r9,r9'] at h;exact h
theorem dropR_c (v:Value) (w:World) (hE:ES w) (hM:ML w) (hS:ShS w v rackS) :
 Calls Tryz.prog 10 #[v] w fun e w' => ∃ sv,e = .returned (.tuple #[sv,.int .i64 1,.int .i64 0])∧ShS w' sv ([rackE],[[97]])∧Bl w w':=by
 have h:=DropS_c rackS v hIr w hE hM hS;rw [r14', r5,r11'] at h;exact h
theorem unreadR_c (v:Value) (w:World) (hE:ES w) (hM:ML w) (hS:ShS w v rackS) :
 Calls Tryz.prog 9 #[v] w fun e w' => ∃ v', e = .returned (.tuple #[v', .int .i64 0])∧StS w' v' [[98]]∧Bl w w':=by
 have h:=UnreadS_c rackS v hIr w hE hM hS;rw [r5,r12'] at h;exact h
theorem checkR_c (v:Value) (w:World) (hE:ES w) (hM:ML w) (hS:ShS w v rackS) :
 Calls Tryz.prog 11 #[v] w fun e w' => e = .returned (.int .i64 0)∧Bl w w':=by
 have h:=checkS_c rackS v hIr w hE hM hS;rw [r5] at h;exact h
theorem ens_new2 (w:World) (x y:Ent):EnS (w.alloc (.cells (enW [x,y]).toArray 36)) (.slice (some ⟨w.heap.size,0,none⟩) 2 2) [x,y] :=
 EnS.of_cells (l:=[x,y]) rfl (by decide) (by simp) (fun j u hj => (cell_of_row (heap_alloc_new w _)).trans (by rw [Nat.zero_add];simpa using hj))
theorem sts_new1 (w:World) (x:Nm):StS (w.alloc (.cells #[.string ⟨x.toArray⟩] 9)) (.slice (some ⟨w.heap.size,0,none⟩) 1 1) [x] :=
 ⟨some ⟨w.heap.size,0,none⟩,1,rfl,Nat.le_refl _,fun i hi => ⟨_,_,rfl,by simp,by
  have hi:i < 1:=hi;obtain rfl:i = 0:=by omega
  exact cell_of_row (heap_alloc_new w _)⟩⟩
theorem begun_at {w:World} {a:Option Addr} {c:Nat} {r:Value} (h:ShS w (.agg #[.slice a 3 c,r]) ([rackE,newC,rackF],[[97]])):∃ g o,a = some ⟨g,o,none⟩∧w.cell? ⟨g,o + 5,none⟩ = some (.string ⟨#[99]⟩)∧w.cell? ⟨g,o + 3,none⟩ = some (.int .i64 9):=by
 obtain ⟨ve,vr,e,hE,-⟩:=h;cases e;obtain ⟨a', c', e,-,hA⟩:=hE;cases e;obtain ⟨g,o,rfl,-,-,-,-,h4,-⟩:=hA 0 (by simp);obtain ⟨g', o', e,-,h1,-⟩:=hA 1 (by simp);cases e;exact ⟨g,o,rfl,h1,h4⟩
theorem shBegun_c (w:World) (hE:ES w) (hM:ML w):Calls Tryz.prog 7 #[] w fun e w' => e = .returned (.bool true)∧Bl w w':=by
 have hB:=Bl.refl w;go_enter Tryz.func7,Tryz.ntmps7;go_wp2_with (first | (go_at_call 23;have h_BU:=BU;have g_BU:=BU;have g_Q3:=Q3; (with_reducible refine (rack_c _).mono ?_);rintro e wR ⟨svR,rfl,hSR,hbR⟩;replace BP:Bl wP wR:=Bl.trans BP.up hbR;replace BU:Bl wU wR:=Bl.trans BU.up hbR;replace hB:Bl w wR:=Bl.trans hB.up hbR;replace Q1:=Q1.of_bl (Bl.trans Bl.z hbR);replace Q2:=Q2.of_bl (Bl.trans Bl.z hbR);replace Q3:=Q3.of_bl (Bl.trans Bl.z hbR);have HSR:=Lib.hid hSR;clear hSR) | (go_at_call 23;have h_BP:=BP;have h_wD:=wD;have g_BP:=BP;have g_Q2:=Q2; (with_reducible refine (rack_c _).mono ?_);rintro e wR ⟨svR,rfl,hSR,hbR⟩;replace BP:Bl wP wR:=Bl.trans BP.up hbR;replace hB:Bl w wR:=Bl.trans hB.up hbR;replace Q1:=Q1.of_bl (Bl.trans Bl.z hbR);replace Q2:=Q2.of_bl (Bl.trans Bl.z hbR);have Q3:=(B2.new wD (.slice aD 1 cD) (.slice tD 1 uD) 25).of_bl hbR;have HSR:=Lib.hid hSR;clear hSR) | (go_at_call 23;have h_BP:=BP;have h_wM:=wM;have g_BP:=BP;have g_Q1:=Q1; (with_reducible refine (rack_c _).mono ?_);rintro e wR ⟨svR,rfl,hSR,hbR⟩;replace BP:Bl wP wR:=Bl.trans BP.up hbR;replace hB:Bl w wR:=Bl.trans hB.up hbR;replace Q1:=Q1.of_bl (Bl.trans Bl.z hbR);have Q2:=(B2.new wM (.slice aM 2 cM) (.slice tM 2 uM) 25).of_bl hbR;have HSR:=Lib.hid hSR;clear hSR) | (go_at_call 23;have h_BP:=BP;have g_BP:=BP; (with_reducible refine (rack_c _).mono ?_);rintro e wR ⟨svR,rfl,hSR,hbR⟩;replace BP:Bl wP wR:=Bl.trans BP.up hbR;replace hB:Bl w wR:=Bl.trans hB.up hbR;have Q1:=(B2.new wP (.slice aP 3 cP) (.slice tP 1 uP) 25).of_bl hbR;have HSR:=Lib.hid hSR;clear hSR) | (go_at_call 23; (with_reducible refine (rack_c _).mono ?_);rintro e wR ⟨svR,rfl,hSR,hbR⟩;replace hB:Bl w wR:=Bl.trans hB.up hbR;have HSR:=Lib.hid hSR;clear hSR) | (go_at_call 13; (with_reducible refine (putR_c svR _ _ ?_ ?_ ?_ ?_).mono ?_); (exact hE.of_bl hB.up); (exact hM.of_bl hB.up); (exact HSR.out.of_bl Bl.z); (exact ens_new2 _ newC newB);rintro e wP ⟨svP,rfl,hSP,hbP⟩;replace hB:Bl w wP:=Bl.trans hB.up hbP;have HP:=Lib.hid hSP;obtain ⟨eP,rP,rfl,hEP,hRP⟩:=hSP;obtain ⟨aP,cP,rfl,-,-⟩:=hEP;obtain ⟨tP,uP,rfl,-,-⟩:=hRP;have BP:=Bl.refl wP) | (go_at_call 8;have g_BP:=BP;have g_Q1:=Q1; (with_reducible refine (markR_c svR _ ?_ ?_ ?_).mono ?_); (exact hE.of_bl hB.up); (exact hM.of_bl hB.up); (exact HSR.out.of_bl Bl.z);rintro e wM ⟨svM,rfl,hSM,hbM⟩;replace BP:Bl wP wM:=Bl.trans BP.up hbM;replace hB:Bl w wM:=Bl.trans hB.up hbM;replace Q1:=Q1.of_bl (Bl.trans Bl.z hbM);have HM:=Lib.hid hSM;obtain ⟨eM,rM,rfl,hEM,hRM⟩:=hSM;obtain ⟨aM,cM,rfl,-,-⟩:=hEM;obtain ⟨tM,uM,rfl,-,-⟩:=hRM) | (go_at_call 10;have g_BP:=BP;have g_Q2:=Q2; (with_reducible refine (dropR_c svR _ ?_ ?_ ?_).mono ?_); (exact hE.of_bl hB.up); (exact hM.of_bl hB.up); (exact HSR.out.of_bl Bl.z);rintro e wD ⟨svD,rfl,hSD,hbD⟩;replace BP:Bl wP wD:=Bl.trans BP.up hbD;replace hB:Bl w wD:=Bl.trans hB.up hbD;replace Q1:=Q1.of_bl (Bl.trans Bl.z hbD);replace Q2:=Q2.of_bl (Bl.trans Bl.z hbD);have HD:=Lib.hid hSD;obtain ⟨eD,rD,rfl,hED,hRD⟩:=hSD;obtain ⟨aD,cD,rfl,-,-⟩:=hED;obtain ⟨tD,uD,rfl,-,-⟩:=hRD) | (go_at_call 9;have g_BP:=BP;have g_Q3:=Q3; (with_reducible refine (unreadR_c svR _ ?_ ?_ ?_).mono ?_); (exact hE.of_bl hB.up); (exact hM.of_bl hB.up); (exact HSR.out.of_bl Bl.z);rintro e wU ⟨vU,rfl,hSU,hbU⟩;replace BP:Bl wP wU:=Bl.trans BP.up hbU;replace hB:Bl w wU:=Bl.trans hB.up hbU;replace Q1:=Q1.of_bl (Bl.trans Bl.z hbU);replace Q2:=Q2.of_bl (Bl.trans Bl.z hbU);replace Q3:=Q3.of_bl (Bl.trans Bl.z hbU);have HU:=Lib.hid hSU;obtain ⟨aU,cU,rfl,-,-⟩:=hSU;have BU:=Bl.refl wU) | (go_at_call 11;have g_BU:=BU;have g_Q3:=Q3; (with_reducible refine (checkR_c svR _ ?_ ?_ ?_).mono ?_); (exact hE.of_bl hB.up); (exact hM.of_bl hB.up); (exact HSR.out.of_bl Bl.z);rintro e wC ⟨rfl,hbC⟩;replace BP:Bl wP wC:=Bl.trans BP.up hbC;replace BU:Bl wU wC:=Bl.trans BU.up hbC;replace hB:Bl w wC:=Bl.trans hB.up hbC;replace Q1:=Q1.of_bl (Bl.trans Bl.z hbC);replace Q2:=Q2.of_bl (Bl.trans Bl.z hbC);replace Q3:=Q3.of_bl (Bl.trans Bl.z hbC);obtain ⟨l1,q10,q11⟩:=Q1;obtain ⟨l2,q20,q21⟩:=Q2;obtain ⟨l3,q30,q31⟩:=Q3;obtain ⟨gP,oP,rfl,z1,z2⟩:=begun_at (HP.out.of_bl BP)) | (go_at_call 21; (with_reducible refine (sameT_c [[98]] [[98]] _ _ (by decide) _ ?_ ?_).mono ?_); (exact HU.out.of_bl BU.up); (exact sts_new1 _ [98]);rintro e w' ⟨rfl,n,rfl⟩));go_ret;exact ⟨rfl,hB.up⟩
theorem shs_sts {w:World} {ve vr:Value} {s:Shf} (h:ShS w (.agg #[ve,vr]) s):StS w vr s.2:=by
 obtain ⟨_,_,e,-,h⟩:=h;cases e;exact h
end Go.Proofs.YthnpljkekhieiaaGreatDoor

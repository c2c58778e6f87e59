/- Shelves: the reference: CheckEntry. · Shelves: Check. · Shelves: rows of entries; slices.Clone; a keeper's own shelf. -/
import Derived.Test.YthnpljkekhieiaaGreatDoorSrC
import Derived.Test.YthnpljkekhieiaaGreatDoorGrpM
import Derived.Test.YthnpljkekhieiaaGreatDoorGrpN
import Derived.Maps.OwnOps
import Derived.Maps.Views
import Derived.Shelf.SlSortCmp.QuietGrown
import Derived.Test.YthnpljkekhieiaaGreatDoorGrpL
set_option maxRecDepth 100000
set_option maxHeartbeats 4000000
namespace Go.Proofs.YthnpljkekhieiaaGreatDoor
open Go.RowKit
theorem chkER_c (x:Ent) (w:World) :
 Calls Tryz.prog 16 #[enV x] w fun e w' => e = .returned (.int .i64 (chkE x))∧Bl w w':=by
 have hB0:=B5.new w x 36;have hb0:Bl w (w.alloc (enO x 36)):=(Bl.refl _).alloc _;have HL:=Lib.hid (fun s W => isLongR_c s W);unfold enO at hB0 hb0;unfold enV;by_cases h1:eI x = []
 · have HR:=Lib.hid (chkE_no h1);rw [h1] at hB0 hb0 ⊢;clear h1;go_enter Tryz.func16,Tryz.ntmps16;go_wp2;go_ret;exact ⟨ret_int (by rw [HR.out]),hb0⟩
 · have h1':((eI x).isEmpty) = false:=by cases e:eI x <;> simp_all
   by_cases h2:60 < (eI x).length
   · have HR:=Lib.hid (chkE_many h1 (.inl h2));have h2':(60:Int) < ((eI x).length:Int):=by omega
     clear h1 h2;go_enter Tryz.func16,Tryz.ntmps16;go_wp2;go_ret;exact ⟨ret_int (by rw [HR.out]),hb0⟩
   · have h2':¬ (60:Int) < ((eI x).length:Int):=by omega
     have TC:=Lib.hid (fun W => isLongR_c (eT x) W);have LC:=Lib.hid (fun W => isLongR_c (eL x) W);have HC:=Lib.hid (fun W => isLongR_c (eH x) W);by_cases h3:3000 < (eT x).length ∨ 3000 < (eL x).length ∨ 3000 < (eH x).length
     · have HR:=Lib.hid (chkE_many h1 (.inr h3));cases k3:decide (3000 < (eT x).length) with
       | true =>
         rw [k3] at TC;clear h1 h2 h3 k3;go_enter Tryz.func16,Tryz.ntmps16;go_wp2_with (go_at_call 38; (with_reducible refine (TC.out _).mono ?_);rintro e w1 ⟨rfl,rfl⟩);go_ret;exact ⟨ret_int (by rw [HR.out]),hb0⟩
       | false =>
         cases k4:decide (3000 < (eL x).length) with
         | true =>
           rw [k3] at TC;rw [k4] at LC;clear h1 h2 h3 k3 k4;go_enter Tryz.func16,Tryz.ntmps16;go_wp2_with (first | (go_at_call 38; (with_reducible refine (TC.out _).mono ?_);rintro e w1 ⟨rfl,rfl⟩) | (go_at_call 38; (with_reducible refine (LC.out _).mono ?_);rintro e w1 ⟨rfl,rfl⟩));go_ret;exact ⟨ret_int (by rw [HR.out]),hb0⟩
         | false =>
           have k5:decide (3000 < (eH x).length) = true:=by simp only [decide_eq_false_iff_not] at k3 k4;exact decide_eq_true (by omega)
           rw [k3] at TC;rw [k4] at LC;rw [k5] at HC;clear h1 h2 h3 k3 k4 k5;go_enter Tryz.func16,Tryz.ntmps16;go_wp2_with (first | (go_at_call 38; (with_reducible refine (TC.out _).mono ?_);rintro e w1 ⟨rfl,rfl⟩) | (go_at_call 38; (with_reducible refine (LC.out _).mono ?_);rintro e w1 ⟨rfl,rfl⟩) | (go_at_call 38; (with_reducible refine (HC.out _).mono ?_);rintro e w1 ⟨rfl,rfl⟩));go_ret;exact ⟨ret_int (by rw [HR.out]),hb0⟩
     · have h23:¬ (60 < (eI x).length ∨ 3000 < (eT x).length ∨ 3000 < (eL x).length ∨ 3000 < (eH x).length):=by omega
       rw [decide_eq_false (by omega)] at TC LC HC;by_cases h4:eA x < 0 ∨ 4102444799 < eA x
       · have HR:=Lib.hid (chkE_range h1 h23 h4);have BC:=Lib.hid (fun W => between_c (eA x) 0 4102444799 W);rw [show (decide ((0:Int) ≤ eA x) && decide (eA x ≤ 4102444799)) = false by rw [Bool.and_eq_false_iff,decide_eq_false_iff_not,decide_eq_false_iff_not];omega] at BC;clear h1 h2 h3 h23;by_cases h5:eA x < 0
         · clear h4;go_enter Tryz.func16,Tryz.ntmps16;go_wp2_with (first | (go_at_call 38; (with_reducible refine (TC.out _).mono ?_);rintro e w1 ⟨rfl,rfl⟩) | (go_at_call 38; (with_reducible refine (LC.out _).mono ?_);rintro e w1 ⟨rfl,rfl⟩) | (go_at_call 38; (with_reducible refine (HC.out _).mono ?_);rintro e w1 ⟨rfl,rfl⟩) | (go_at_call 39; (with_reducible refine (BC.out _).mono ?_);rintro e w8 ⟨rfl,rfl⟩));go_ret;exact ⟨ret_int (by rw [HR.out]),hb0⟩
         · have h6:4102444799 < eA x:=by omega
           clear h4;go_enter Tryz.func16,Tryz.ntmps16;go_wp2_with (first | (go_at_call 38; (with_reducible refine (TC.out _).mono ?_);rintro e w1 ⟨rfl,rfl⟩) | (go_at_call 38; (with_reducible refine (LC.out _).mono ?_);rintro e w1 ⟨rfl,rfl⟩) | (go_at_call 38; (with_reducible refine (HC.out _).mono ?_);rintro e w1 ⟨rfl,rfl⟩) | (go_at_call 39; (with_reducible refine (BC.out _).mono ?_);rintro e w8 ⟨rfl,rfl⟩));go_ret;exact ⟨ret_int (by rw [HR.out]),hb0⟩
       · have HR:=Lib.hid (chkE_state h1 h23 h4);have BC:=Lib.hid (fun W => between_c (eA x) 0 4102444799 W);rw [show (decide ((0:Int) ≤ eA x) && decide (eA x ≤ 4102444799)) = true by rw [Bool.and_eq_true,decide_eq_true_eq,decide_eq_true_eq];omega] at BC;have h5:¬ eA x < 0:=by omega
         have h6:¬ 4102444799 < eA x:=by omega
         have IC:=Lib.hid (fun W => isSafe_c (eL x) (by omega) W);have SC:=Lib.hid (fun W => doesStay_c (eH x) W);clear h1 h2 h3 h23 h4;by_cases h7:eL x = []
         · have HR2:=Lib.hid (show chkE x = if stayU (eH x) = false then 4 else 0 by rw [HR.out];simp [h7]);rw [h7] at hB0 hb0 LC ⊢;clear h7;cases k:stayU (eH x) <;>
           · rw [k] at SC HR2;clear k;go_enter Tryz.func16,Tryz.ntmps16;go_wp2_with (first | (go_at_call 38; (with_reducible refine (TC.out _).mono ?_);rintro e w1 ⟨rfl,rfl⟩) | (go_at_call 38; (with_reducible refine (LC.out _).mono ?_);rintro e w1 ⟨rfl,rfl⟩) | (go_at_call 38; (with_reducible refine (HC.out _).mono ?_);rintro e w1 ⟨rfl,rfl⟩) | (go_at_call 39; (with_reducible refine (BC.out _).mono ?_);rintro e w8 ⟨rfl,rfl⟩) | (go_at_call 41; (with_reducible refine (SC.out _).mono ?_);rintro e w2 ⟨rfl,hb2⟩));go_ret;exact ⟨ret_int (by rw [HR2.out];rfl),hb0.trans hb2⟩
         · have h7':((eL x).isEmpty) = false:=by cases e:eL x <;> simp_all
           have HNE:=Lib.hid h7;clear h7;cases k8:isU (eL x) with
           | false =>
             have HR2:=Lib.hid (show chkE x = 4 by rw [HR.out,if_pos (.inl ⟨HNE.out,k8⟩)]);rw [k8] at IC;clear k8;go_enter Tryz.func16,Tryz.ntmps16;go_wp2_with (first | (go_at_call 38; (with_reducible refine (TC.out _).mono ?_);rintro e w1 ⟨rfl,rfl⟩) | (go_at_call 38; (with_reducible refine (LC.out _).mono ?_);rintro e w1 ⟨rfl,rfl⟩) | (go_at_call 38; (with_reducible refine (HC.out _).mono ?_);rintro e w1 ⟨rfl,rfl⟩) | (go_at_call 39; (with_reducible refine (BC.out _).mono ?_);rintro e w8 ⟨rfl,rfl⟩) | (go_at_call 40; (with_reducible refine (IC.out _).mono ?_);rintro e w2 ⟨rfl,hb2⟩));go_ret;exact ⟨ret_int (by rw [HR2.out]),hb0.trans hb2⟩
           | true =>
             have HR2:=Lib.hid (show chkE x = if stayU (eH x) = false then 4 else 0 by rw [HR.out,k8];simp);rw [k8] at IC;clear k8;cases k:stayU (eH x) <;>
             · rw [k] at SC HR2;clear k;go_enter Tryz.func16,Tryz.ntmps16;go_wp2_with (first | (go_at_call 38; (with_reducible refine (TC.out _).mono ?_);rintro e w1 ⟨rfl,rfl⟩) | (go_at_call 38; (with_reducible refine (LC.out _).mono ?_);rintro e w1 ⟨rfl,rfl⟩) | (go_at_call 38; (with_reducible refine (HC.out _).mono ?_);rintro e w1 ⟨rfl,rfl⟩) | (go_at_call 39; (with_reducible refine (BC.out _).mono ?_);rintro e w8 ⟨rfl,rfl⟩) | (go_at_call 40; (with_reducible refine (IC.out _).mono ?_);rintro e w2 ⟨rfl,hb2⟩;obtain ⟨l2,c0,c1,c2,c3,c4⟩:=hB0.of_bl hb2) | (go_at_call 41; (with_reducible refine (SC.out _).mono ?_);rintro e w3 ⟨rfl,hb3⟩));go_ret;exact ⟨ret_int (by rw [HR2.out];rfl),(hb0.trans hb2).trans hb3⟩
end Go.Proofs.YthnpljkekhieiaaGreatDoor
namespace Go.Proofs.YthnpljkekhieiaaGreatDoor
open Go.RowKit Go.WideMaps Go.Maps
theorem Tryz.lawS:Keyed Tryz.prog 9:=string_keyed Tryz.underlying9
theorem Tryz.zeroI (w:World):(zeroValue 3).run Tryz.prog w = .ok (.int .i64 0) w:=by kernel_rfl
def cntI (t:Nm) (l:List Ent):Nat:=(l.filter fun x => decide (eI x = t)).length
theorem cntI_snoc (t:Nm) (l:List Ent) (x:Ent):cntI t (l ++ [x]) = cntI t l + if eI x = t then 1 else 0:=by
 unfold cntI;rw [List.filter_append,List.length_append];by_cases h:eI x = t <;> simp [h]
theorem cntI_pos (t:Nm) (l:List Ent):0 < cntI t l ↔ (l.any fun y => decide (eI y = t)) = true:=by
 unfold cntI;rw [List.length_pos_iff_exists_mem,List.any_eq_true];constructor
 · rintro ⟨x,h⟩;obtain ⟨h1,h2⟩:=List.mem_filter.1 h;exact ⟨x,h1,h2⟩
 · rintro ⟨x,h1,h2⟩;exact ⟨x,List.mem_filter.2 ⟨h1,h2⟩⟩
theorem cntI_le (t:Nm) (l:List Ent):cntI t l ≤ l.length:=List.length_filter_le _ _
abbrev DU:=DataW Unit
def MpI (w:World) (B:Nat) (n:Nat) (l:List Ent):Prop :=
 ∃ D:DU,w.ownsMap Tryz.prog 9 (plainElem Tryz.prog 3) B n D∧∀ t:Nm,D.atKey (.string t) (.lit (.int .i64 0)) = .lit (.int .i64 (cntI t l))
theorem map_bl {w w':World} {P:Program} {k:TypeId} {R:Value → Option (DU × List MemPlace)} {b n:Nat} {D:DU} (h:w.ownsMap P k R b n D) (hb:Bl w w'):w'.ownsMap P k R b n D:=by
 have hlt:=h.lt;obtain ⟨es,clock,h1,h2⟩:=h;exact ⟨es,clock,(Below.block hb b hlt).trans h1,h2⟩
theorem MpI.of_bl {w w':World} {B n:Nat} {l:List Ent} (h:MpI w B n l) (hb:Bl w w'):MpI w' B n l:=by
 obtain ⟨D,h1,h2⟩:=h;exact ⟨D,map_bl h1 hb,h2⟩
theorem MpI.made (w:World):MpI (w.alloc (.map #[] 0)) w.heap.size 0 []:=⟨.map [],World.ownsMap_made _ _ _ _,fun _t => rfl⟩
theorem isKeyS (t:Nm):WideAt.IsKeyLit (.string t):=by first | exact trivial | constructor | simp [WideAt.IsKeyLit]
theorem enG_at (l:List Ent) (k:Nat) (h:k < l.length):enG (l.take k) (l.drop k) = if stE (l.take k) l[k] ≠ 0 then stE (l.take k) l[k] else enG (l.take (k + 1)) (l.drop (k + 1)):=by
 rw [List.drop_eq_getElem_cons h,enG,take_snoc l k h]
theorem stE_chk {seen:List Ent} {x:Ent} (h:chkE x ≠ 0):stE seen x = chkE x:=by unfold stE;rw [if_pos h]
theorem stE_twice {seen:List Ent} {x:Ent} (h:chkE x = 0) (h2:0 < cntI (eI x) seen):stE seen x = 6:=by
 unfold stE;rw [if_neg (by simpa using h),if_pos ((cntI_pos _ _).1 h2)]
theorem stE_last {seen:List Ent} {x:Ent} (h:chkE x = 0) (h2:¬ 0 < cntI (eI x) seen):stE seen x = if (seen.getLast?.any fun p => decide (0 ≤ ordE p x)) = true then 4 else 0:=by
 unfold stE;rw [if_neg (by simpa using h),if_neg (fun e => h2 ((cntI_pos _ _).2 e))]
theorem last_take (l:List Ent) (k:Nat) (hk:k ≤ l.length) (h:k ≠ 0):(l.take k).getLast? = some (l[k - 1]'(by omega)):=by
 rw [List.getLast?_eq_getElem?,List.length_take,Nat.min_eq_left hk,List.getElem?_take,if_pos (by omega),List.getElem?_eq_getElem]
theorem ckS_many {s:Shf} (h:20 < s.1.length ∨ 40 < s.2.length):ckS s = 2:=by unfold ckS;rw [if_pos h]
theorem ckS_ent {s:Shf} (h:¬ (20 < s.1.length ∨ 40 < s.2.length)) (h2:enG [] s.1 ≠ 0):ckS s = enG [] s.1:=by unfold ckS;rw [if_neg h,if_pos h2]
theorem ckS_read {s:Shf} (h:¬ (20 < s.1.length ∨ 40 < s.2.length)) (h2:enG [] s.1 = 0):ckS s = rdG none s.2:=by unfold ckS;rw [if_neg h,if_neg (by simpa using h2)]
theorem B5.of_gr {w w':World} {b:Nat} {x:Ent} {row:Option Nat} (h:B5 w b x) (hg:w.grownBy w' row) (hne:some b ≠ row):B5 w' b x :=
 ⟨Nat.lt_of_lt_of_le h.1 hg.size,hg.cell h.2.1 hne,hg.cell h.2.2.1 hne,hg.cell h.2.2.2.1 hne,hg.cell h.2.2.2.2.1 hne,hg.cell h.2.2.2.2.2 hne⟩
theorem bl_grow (w:World) (n:Nat) (os:Array Obj):Bl w (Sort.grow (w.drewN n) os):=by
 have h:=(Bl.refl w).drewN n;exact ⟨h.os,h.tape,h.output,Nat.le_trans h.size (by simp [Sort.grow]),fun k hk => (Sort.heap_grow_old (w.drewN n) os hk).trans (h.block k hk)⟩
theorem grown_two {P:Program} {f:FuncId} {args:Array Value} {W:World} {v:Value} {a b:Obj} (h:Calls P f args W fun e w' => e = .returned v∧w' = (W.alloc a).alloc b) :
 Calls P f args W fun e w' => e = .returned v∧∃ q os', w' = Sort.grow (W.drewN q) os' :=
 h.mono fun _ _ ⟨he,hw⟩ => ⟨he,0,#[a,b],by rw [hw,Sort.alloc_eq_grow,Sort.alloc_eq_grow,Sort.grow_grow];rfl⟩
theorem keyS_ok (t:Nm) (h:t.length ≤ 9223372036854775807):keyOf Tryz.prog 9 (.string ⟨t.toArray⟩) = some (.string t):=by
 have:=keyOf_string_mk (P:=Tryz.prog) Tryz.underlying9 (s:=⟨t.toArray⟩) (by unfold maxLen;simp [ByteArray.size];omega);simpa using this
theorem lit_int {k:IntKind} {a b:Int} (h:(DataW.lit (.int k a):DU) = .lit (.int k b)):a = b:=by cases h;rfl
theorem MpI.put {w2:World} {B k:Nat} {l:List Ent} {x:Ent} {D:DU} (h:w2.ownsMap Tryz.prog 9 (plainElem Tryz.prog 3) B (k + 1) (D.put (.string (eI x)) (.lit (.int .i64 ((cntI (eI x) l:Nat) + 1)))))
 (hD:∀ t:Nm,D.atKey (.string t) (.lit (.int .i64 0)) = .lit (.int .i64 (cntI t l))) (hm:Maps.IsMap D):MpI w2 B (k + 1) (l ++ [x]):=by
 refine ⟨_,h,fun t => ?_⟩;rw [cntI_snoc];by_cases e:eI x = t
 · subst e;rw [Maps.atKey_put_same hm (isKeyS _),if_pos rfl]
   push_cast
   rfl
 · rw [Maps.atKey_put_other (fun h => e (by cases h;rfl)),hD,if_neg e,Nat.add_zero]
theorem checkS_c (s:Shf) (v:Value) (hI:∀ x ∈ s.1,(eI x).length ≤ 9223372036854775807) (w:World) (hE:ES w) (hM:ML w) (hS:ShS w v s) :
 Calls Tryz.prog 11 #[v] w fun e w' => e = .returned (.int .i64 (ckS s))∧Bl w w':=by
 obtain ⟨ve,vr,rfl,hEn,hRd⟩:=hS;have hEn0:=hEn;have hRd0:=hRd;obtain ⟨l,rd⟩:=s;obtain ⟨ao,cap,rfl,hcap,hA⟩:=hEn;obtain ⟨ar,cr,rfl,hcr,-⟩:=hRd;simp only at hI hEn0 hRd0 hcap hA hcr ⊢;by_cases hm:20 < l.length ∨ 40 < rd.length
 · have HR:=Lib.hid (ckS_many (s:=(l,rd)) hm);by_cases h1:20 < l.length
   · have h1':(20:Int) < (l.length:Int):=by omega
     clear hm h1 hA;go_enter Tryz.func11,Tryz.ntmps11;go_wp2;go_ret;exact ⟨ret_int (by rw [HR.out]),(Bl.refl _).alloc _⟩
   · have h1':¬ (20:Int) < (l.length:Int):=by omega
     have h2':(40:Int) < (rd.length:Int):=by omega
     clear hm h1 hA;go_enter Tryz.func11,Tryz.ntmps11;go_wp2;go_ret;exact ⟨ret_int (by rw [HR.out]),(Bl.refl _).alloc _⟩
 · have h1':¬ (20:Int) < (l.length:Int):=by omega
   have h2':¬ (40:Int) < (rd.length:Int):=by omega
   have hmm:=@run_makeMap Tryz.prog;have HM1:=Lib.hid (show enG [] l ≠ 0 → ckS (l,rd) = enG [] l from fun h => ckS_ent (s:=(l,rd)) hm h);have HM2:=Lib.hid (show enG [] l = 0 → ckS (l,rd) = rdG none rd from fun h => ckS_read (s:=(l,rd)) hm h);have hl20:l.length ≤ 20:=by omega
   have HRD:=Lib.hid (fun W (hb:Bl w W) => idsR_c rd _ (by omega) W (hRd0.of_bl hb));have HI:=Lib.hid hI;have HE:=Lib.hid hE;have HM:=Lib.hid hM;clear hm hI hEn0 hRd0;go_enter Tryz.func11,Tryz.ntmps11;go_wp2;go_loopw [4,5,6,21] (fun _ _ _ i wr => ∃ k:Nat,k ≤ l.length∧i = .int .i64 k∧Hid (enG [] l = enG (l.take k) (l.drop k))∧Bl (w.alloc (.cells #[.slice ao l.length cap,.slice ar rd.length cr] 25)) wr∧MpI wr (w.heap.size + 1) k (l.take k)∧Hid (∀ j (h:j < l.length),j < k → chkE l[j] = 0)) (fun _ _ _ i _ => l.length - (intOf i).toNat);case atStart =>
    refine ⟨0,Nat.zero_le _,rfl,Lib.hid (by rw [List.take_zero,List.drop_zero]),(Bl.refl _).alloc _,?_,Lib.hid (fun j _ h => by omega)⟩;have:=MpI.made (w.alloc (.cells #[.slice ao l.length cap,.slice ar rd.length cr] 25));rw [show (w.alloc (.cells #[.slice ao l.length cap,.slice ar rd.length cr] 25)).heap.size = w.heap.size + 1 by simp] at this;rw [List.take_zero];exact this
   case round =>
    obtain ⟨k,hk,rfl,HP,hbl,hMp,HZ⟩:=hrel;have hb0:Bl w (w.alloc (.cells #[.slice ao l.length cap,.slice ar rd.length cr] 25)):=(Bl.refl _).alloc _;have hbw:=hb0.trans hbl;have hbx0:wr.cell? ⟨w.heap.size,0,none⟩ = some (.slice ao l.length cap):=(hbl.cells.1 w.heap.size 0 (by simp)).trans (by simp);have hbx1:wr.cell? ⟨w.heap.size,1,none⟩ = some (.slice ar rd.length cr):=(hbl.cells.1 w.heap.size 1 (by simp)).trans (by simp);have hbxl:w.heap.size < wr.heap.size:=Nat.lt_of_lt_of_le (by simp) (Below.size hbl);by_cases hlt:k < l.length
    · obtain ⟨g,o,rfl,hg,h1,h2,h3,h4,h5⟩:=hA k hlt;have x1:=(hbw.cells.1 g _ hg).trans h1;have x2:=(hbw.cells.1 g _ hg).trans h2;have x3:=(hbw.cells.1 g _ hg).trans h3;have x4:=(hbw.cells.1 g _ hg).trans h4;have x5:=(hbw.cells.1 g _ hg).trans h5;have hgw:g < wr.heap.size:=Nat.lt_of_lt_of_le hg (Below.size hbw);have HA:=Lib.hid hA;have HS:=Lib.hid (HP.out.trans (enG_at l k hlt));have HTK:=Lib.hid (take_snoc l k hlt);have HIx:=Lib.hid (HI.out l[k] (List.getElem_mem hlt));have HPV:∀ j,k = j + 1 → ∃ y,(l.take k).getLast? = some y∧Tm y∧w.cell? ⟨g,o + j * 5,none⟩ = some (.string ⟨(eI y).toArray⟩)∧w.cell? ⟨g,o + j * 5 + 1,none⟩ = some (.string ⟨(eT y).toArray⟩) ∧
       w.cell? ⟨g,o + j * 5 + 2,none⟩ = some (.string ⟨(eL y).toArray⟩)∧w.cell? ⟨g,o + j * 5 + 3,none⟩ = some (.int .i64 (eA y))∧w.cell? ⟨g,o + j * 5 + 4,none⟩ = some (.string ⟨(eH y).toArray⟩):=fun j e => by
       obtain ⟨g', o', e2,_,hh⟩:=hA j (by omega);cases e2;refine ⟨l[j],?_,tm_of (HZ.out j (by omega) (by omega)),hh⟩;rw [last_take l k hk (by omega)];congr 1;congr 1;omega
      have HPV:=Lib.hid HPV;have HZ2:=Lib.hid (show chkE l[k] = 0 → ∀ j (h:j < l.length),j < k + 1 → chkE l[j] = 0 from fun e j h h2 => by
       by_cases e2:j = k
       · subst e2;exact e
       · exact HZ.out j h (by omega))
      clear h1 h2 h3 h4 h5 hA;obtain ⟨x,hx⟩:∃ x,x = l[k]:=⟨_,rfl⟩;rw [← hx] at x1 x2 x3 x4 x5 HS HTK HIx HZ2;obtain ⟨D,hown,hat⟩:=hMp;obtain ⟨m,hm⟩:∃ m,m = cntI (eI x) (l.take k):=⟨_,rfl⟩;have hm20:m ≤ 20:=by
       have:=cntI_le (eI x) (l.take k);rw [List.length_take] at this;omega
      have hkey:=keyS_ok (eI x) HIx.out;have hBl:=hown.lt;have HAT:=Lib.hid hat;have HIM:=Lib.hid hown.isMap;have HX:=Lib.hid hx;have HMm:=Lib.hid hm;have hB0:=B5.new wr x 36;have hnx0:Below (w.heap.size + 1) wr (wr.alloc (enO x 36)):=(Below.refl _ _).alloc (by omega) _;unfold enO at hB0 hnx0;clear hx hm hat;go_upto_region 7 with fail;go_cut [] from 26 to 30 (fun wx => MpI wx (w.heap.size + 1) (k + 1) (l.take (k + 1))∧B5 wx wr.heap.size x∧Below (w.heap.size + 1) wr wx);case first =>
       go_wp2_with (first
        | (at_lookup;refine wpList_lookup_own_int _ rfl _ _ 62 rfl 9 3 .i64 Tryz.lawS Tryz.underlying62 Tryz.underlying3 (Tryz.zeroI _) (w.heap.size + 1) k _ rfl (hown.alloc _) _ _ rfl hkey ?_;intro c hatc _;have hcm:=lit_int (hatc.symm.trans (HAT.out (eI x)));rw [← HMm.out] at hcm;subst hcm)
        | (at_mapUpdate;refine wpList_mapUpdate_own _ rfl _ _ _ 62 rfl 9 3 Tryz.lawS Tryz.underlying62 _ (w.heap.size + 1) k _ rfl (hown.alloc _) (by unfold maxLen;omega) _ _ _ rfl rfl hkey _ [] (plainElem_int Tryz.underlying3 (WalkArith.wf_i64 (by omega))) ?_;intro w2 hown2 hgrow2))
       go_meet;case rel =>
        refine ⟨?_,hB0.of_gr hgrow2 (by simp only [ne_eq,Option.some.injEq];omega),hnx0.grown hgrow2 (by simp;omega) (fun j hj => by cases hj;exact Nat.le_refl _)⟩;rw [HTK.out];exact MpI.put (by rw [← HMm.out];exact hown2) HAT.out HIM.out
      case rest =>
       obtain ⟨hMp2,hB2,hnx2⟩:=hcut;obtain ⟨bl,b0,b1,b2,b3,b4⟩:=hB2;have hblw:Bl w wc:=Below.trans hbw (Below.mono hnx2 (by omega));have hbW:Bl (w.alloc (.cells #[.slice (some ⟨g,o,none⟩) l.length cap,.slice ar rd.length cr] 25)) wc:=Below.trans hbl (Below.mono hnx2 (by simp));have hEc:=HE.out.of_bl hblw;have hMc:=HM.out.of_bl hblw;have CK0:=fun W h1 h2 => chkE_c x W h1 h2
       unfold enV at CK0;have CK:=Lib.hid CK0;have HC0:=Lib.hid (show ∀ seen,chkE x ≠ 0 → stE seen x = chkE x from fun seen h => stE_chk h);have HC1:=Lib.hid (show ∀ seen,chkE x = 0 → 0 < cntI (eI x) seen → stE seen x = 6 from fun seen h h2 => stE_twice h h2);have HC2:=Lib.hid (show ∀ seen,chkE x = 0 → ¬ 0 < cntI (eI x) seen → stE seen x = if (seen.getLast?.any fun p => decide (0 ≤ ordE p x)) = true then 4 else 0 from fun seen h h2 => stE_last h h2);have HTM:=Lib.hid (show chkE x = 0 → Tm x from tm_of);obtain ⟨c0,hc0⟩:∃ c0,c0 = chkE x:=⟨_,rfl⟩;rw [← hc0] at CK HC0 HC1 HC2 HTM HZ2;clear CK0 hc0 hown hkey hB0 hnx0;by_cases hz:c0 = 0
       · have HZ3:=Lib.hid (HZ2.out hz);have HD1:=Lib.hid (fun seen => HC1.out seen hz);have HD2:=Lib.hid (fun seen => HC2.out seen hz);have HTx:=Lib.hid (HTM.out hz);subst hz;go_upto_region 11 with (go_at_call 31; (with_reducible refine (CK.out _ hEc hMc).mono ?_);rintro e w3 ⟨rfl,hb3⟩;obtain ⟨D3,hown3,hat3⟩:=hMp2.of_bl hb3;have HAT3:=Lib.hid (hat3 (eI x));clear hat3;obtain ⟨bl3,z0,z1,z2,z3,z4⟩:=(show B5 wc wr.heap.size x from ⟨bl,b0,b1,b2,b3,b4⟩).of_bl hb3);have HCN:=Lib.hid (show cntI (eI x) (l.take (k + 1)) = m + 1 by rw [HTK.out,cntI_snoc,if_pos rfl,← HMm.out]);have HATm:=Lib.hid (show D3.atKey (.string (eI x)) (.lit (.int .i64 0)) = .lit (.int .i64 ((m:Int) + 1)) by rw [HAT3.out,HCN.out];push_cast;rfl);have hkey3:=keyS_ok (eI x) HIx.out;have hb13:Bl w w3:=hblw.trans hb3;have hbW3:=hbW.trans hb3;by_cases hm1:0 < m
         · have HF:=Lib.hid (show ckS (l,rd) = 6 by
            have h6:=HD1.out (l.take k) (by rw [← HMm.out];exact hm1);have h7:enG [] l = 6:=by rw [HS.out,h6];rfl
            rw [HM1.out (by rw [h7];decide),h7])
           have hm1':(1:Int) < (m:Int) + 1:=by omega
           go_wp2_with (at_lookup;refine wpList_lookup_own_int _ rfl _ _ 62 rfl 9 3 .i64 Tryz.lawS Tryz.underlying62 Tryz.underlying3 (Tryz.zeroI _) (w.heap.size + 1) _ _ rfl hown3 _ _ rfl hkey3 ?_;intro c hatc _;have hcm:=lit_int (hatc.symm.trans HATm.out);subst hcm);go_ret;exact ⟨ret_int HF.out.symm,hb13⟩
         · have hm1':¬ (1:Int) < (m:Int) + 1:=by omega
           have HST:=Lib.hid (HD2.out (l.take k) (by rw [← HMm.out];exact hm1));obtain ⟨B,hB⟩:∃ B:Bool,B = decide (stE (l.take k) x ≠ 0):=⟨_,rfl⟩;have HB:=Lib.hid hB;clear hB;go_upto_region 13 with (at_lookup;refine wpList_lookup_own_int _ rfl _ _ 62 rfl 9 3 .i64 Tryz.lawS Tryz.underlying62 Tryz.underlying3 (Tryz.zeroI _) (w.heap.size + 1) _ _ rfl hown3 _ _ rfl hkey3 ?_;intro c hatc _;have hcm:=lit_int (hatc.symm.trans HATm.out);subst hcm;clear hatc);clear hm1 hm1';go_cut [42] from 43 to 55 (fun v wx => v = .bool B∧Bl w3 wx);case first =>
            by_cases hk0:k = 0
            · have HF:=Lib.hid (show B = false by rw [HB.out,HST.out];simp [hk0]);subst hk0;go_quiet (fail);go_wp2;go_meet;case rel => exact ⟨by rw [HF.out],(Bl.refl _).drewN _⟩
            · obtain ⟨j,hkj⟩:∃ j,k = j + 1:=⟨k - 1,by omega⟩;obtain ⟨y,hy,hty,y0,y1,y2,y3,y4⟩:=HPV.out j hkj;have hk2:(k:Int) - 1 = (j:Int):=by omega
              have hkp:0 < k:=by omega
              have Y0:=(hb13.cells.1 g _ hg).trans y0;have Y1:=(hb13.cells.1 g _ hg).trans y1;have Y2:=(hb13.cells.1 g _ hg).trans y2;have Y3:=(hb13.cells.1 g _ hg).trans y3;have Y4:=(hb13.cells.1 g _ hg).trans y4;have hbx3:w3.cell? ⟨w.heap.size,0,none⟩ = some (.slice (some ⟨g,o,none⟩) l.length cap):=(hbW3.cells.1 w.heap.size 0 (by simp)).trans (by simp);have hbxl3:w.heap.size < w3.heap.size:=Nat.lt_of_lt_of_le (by simp) (Below.size hbW3);have hgw3:g < w3.heap.size:=Nat.lt_of_lt_of_le hg (Below.size hb13);have hmix:Tryz.prog.follows .mixedOrders = true:=by kernel_rfl
              have hkl:j < l.length:=by omega
              have hkl2:(j:Int) < (l.length:Int):=by omega
              have hwj:IntKind.i64.wrap (j:Int) = (j:Int):=by rw [IntKind.wrap_i64];omega
              have OC0:=fun W => order_c y x hty HTx.out W
              unfold enV at OC0;have HSY:=Lib.hid (show B = decide (0 ≤ ordE y x) by
               rw [HB.out,HST.out,hy];simp only [Option.any_some];by_cases h:0 ≤ ordE y x <;> simp [h])
              obtain ⟨q,hq⟩:∃ q,q = ordE y x:=⟨_,rfl⟩;rw [← hq] at HSY OC0;have OC:=Lib.hid OC0;clear OC0 hq hk0 y0 y1 y2 y3 y4 hy x1 x2 x3 x4 x5 b0 b1 b2 b3 b4 bl hbx0 hbx1 hkj;have G0:=fun n os => cell_grown (a:=⟨g,o + j * 5,none⟩) hgw3 Y0 n os
              have G1:=fun n os => cell_grown (a:=⟨g,o + j * 5 + 1,none⟩) hgw3 Y1 n os
              have G2:=fun n os => cell_grown (a:=⟨g,o + j * 5 + 2,none⟩) hgw3 Y2 n os
              have G3:=fun n os => cell_grown (a:=⟨g,o + j * 5 + 3,none⟩) hgw3 Y3 n os
              have G4:=fun n os => cell_grown (a:=⟨g,o + j * 5 + 4,none⟩) hgw3 Y4 n os
              have K0:=fun n os => cell_grown (a:=⟨wr.heap.size,0,none⟩) bl3 z0 n os
              have K1:=fun n os => cell_grown (a:=⟨wr.heap.size,1,none⟩) bl3 z1 n os
              have K2:=fun n os => cell_grown (a:=⟨wr.heap.size,2,none⟩) bl3 z2 n os
              have K3:=fun n os => cell_grown (a:=⟨wr.heap.size,3,none⟩) bl3 z3 n os
              have K4:=fun n os => cell_grown (a:=⟨wr.heap.size,4,none⟩) bl3 z4 n os
              have B0:=fun n os => cell_grown (a:=⟨w.heap.size,0,none⟩) hbxl3 hbx3 n os
              refine wp_region_quiet_grown hmix (by kernel_rfl) ?_;repeat (quiet_step ((go_at_call 32;exact Calls.grown_of (grown_two (OC.out _)))))
              refine wpQuiet_nil ?_;intro _ hw';obtain ⟨⟨nq,osq⟩,hw''⟩:=hw';subst hw'';go_wp2;go_meet;case rel => exact ⟨by rw [HSY.out],bl_grow _ _ _⟩
           case rest =>
            obtain ⟨rfl,hb4⟩:=hcut;cases B with
            | true =>
              have HF:=Lib.hid (show ckS (l,rd) = 4 by
               have h5:stE (l.take k) x ≠ 0:=of_decide_eq_true HB.out.symm;have h6:stE (l.take k) x = 4:=by
                have:=HST.out;split at this
                · exact this
                · exact absurd this h5
               have h7:enG [] l = 4:=by rw [HS.out,h6];rfl
               rw [HM1.out (by rw [h7];decide),h7])
              go_wp2;go_ret;exact ⟨ret_int HF.out.symm,hb13.trans hb4⟩
            | false =>
              have HF:=Lib.hid (show enG [] l = enG (l.take (k + 1)) (l.drop (k + 1)) by
               have h5:¬ stE (l.take k) x ≠ 0:=of_decide_eq_false HB.out.symm;rw [HS.out,if_neg h5])
              go_wp2;go_roundw;case rel => exact ⟨k + 1,by omega,by go_num,HF,hbW3.trans hb4,(hMp2.of_bl hb3).of_bl hb4,HZ3⟩
              case measure => simp [intOf];omega
       · have hz':(c0 != 0) = true:=by simpa using hz
         have HF:=Lib.hid (show ckS (l,rd) = c0 by
          have h6:=HC0.out (l.take k) hz;have h7:enG [] l = c0:=by rw [HS.out,h6,if_pos hz]
          rw [HM1.out (by rw [h7];exact hz),h7])
         clear hz;go_wp2_with (go_at_call 31; (with_reducible refine (CK.out _ hEc hMc).mono ?_);rintro e w3 ⟨rfl,hb3⟩);go_ret;exact ⟨ret_int HF.out.symm,hblw.trans hb3⟩
    · have HF:=Lib.hid (show enG [] l = 0 by rw [HP.out,List.drop_of_length_le (by omega)];rfl);have HF2:=Lib.hid (HM2.out HF.out);clear hA;go_wp2_with (go_at_call 33; (with_reducible refine (HRD.out _ hbw).mono ?_);rintro e w3 ⟨rfl,hb3⟩);go_ret;exact ⟨ret_int (by rw [HF2.out]),hbw.trans hb3⟩
end Go.Proofs.YthnpljkekhieiaaGreatDoor
namespace Go.Proofs.YthnpljkekhieiaaGreatDoor
open Go.RowKit
def enQ (x:Ent):List Value:=[.string ⟨(eI x).toArray⟩,.string ⟨(eT x).toArray⟩,.string ⟨(eL x).toArray⟩,.int .i64 (eA x),.string ⟨(eH x).toArray⟩]
def enW (l:List Ent):List Value:=l.flatMap enQ
theorem enW_cons (x:Ent) (l:List Ent):enW (x :: l) = enQ x ++ enW l:=by simp [enW]
theorem enW_app (l m:List Ent):enW (l ++ m) = enW l ++ enW m:=by simp [enW]
theorem enQ_len (x:Ent):(enQ x).length = 5:=rfl
theorem enW_len (l:List Ent):(enW l).length = l.length * 5:=by
 induction l with
 | nil => rfl
 | cons x l ih => rw [enW_cons,List.length_append,ih,enQ_len,List.length_cons];omega
theorem enW_at:∀ (l:List Ent) (i c:Nat) (hi:i < l.length),c < 5 → (enW l)[i * 5 + c]? = (enQ l[i])[c]?:=by
 intro l;induction l with
 | nil => intro i c hi;simp at hi
 | cons x l ih =>
   intro i c hi hc;rw [enW_cons];cases i with
   | zero => rw [List.getElem?_append_left (by rw [enQ_len];omega)];simp
   | succ i =>
     rw [List.getElem?_append_right (by rw [enQ_len];omega),enQ_len,show (i + 1) * 5 + c - 5 = i * 5 + c by omega];exact ih i c (by simpa using hi) hc
theorem enW_idx {l:List Ent} {j:Nat} {u:Value} (h:(enW l)[j]? = some u):∃ i c,∃ hi:i < l.length,c < 5∧j = i * 5 + c∧(enQ l[i])[c]? = some u:=by
 have hj:j < (enW l).length:=(List.getElem?_eq_some_iff.1 h).1;rw [enW_len] at hj;have hi:j / 5 < l.length:=by omega
 refine ⟨j / 5,j % 5,hi,by omega,by omega,?_⟩;rw [← enW_at l (j / 5) (j % 5) hi (by omega),show j / 5 * 5 + j % 5 = j by omega];exact h
theorem enQ_one (x:Ent):∀ u ∈ enQ x,u.oneCell' = true:=by
 intro u hu;unfold enQ at hu;simp only [List.mem_cons,List.not_mem_nil,or_false] at hu;rcases hu with rfl | rfl | rfl | rfl | rfl <;> rfl
theorem enW_one (l:List Ent):∀ u ∈ enW l,u.oneCell' = true:=by
 intro u hu;obtain ⟨x,_,h⟩:=List.mem_flatMap.1 hu;exact enQ_one x u h
theorem EnS.cells {w:World} {g o n c:Nat} {l:List Ent} (h:EnS w (.slice (some ⟨g,o,none⟩) n c) l):∀ j u,(enW l)[j]? = some u → w.cell? ⟨g,o + j,none⟩ = some u:=by
 intro j u hj;obtain ⟨ao,cap,e,_,h⟩:=h;cases e;obtain ⟨i,c', hi,hc,rfl,hu⟩:=enW_idx hj;obtain ⟨g', o', e,_,h3,h4,h5,h6,h7⟩:=h i hi;cases e;match c', hc,hu with
 | 0,_,hu => rw [← show some _ = some u from hu];exact h3
 | 1,_,hu => rw [← show some _ = some u from hu,← Nat.add_assoc];exact h4
 | 2,_,hu => rw [← show some _ = some u from hu,← Nat.add_assoc];exact h5
 | 3,_,hu => rw [← show some _ = some u from hu,← Nat.add_assoc];exact h6
 | 4,_,hu => rw [← show some _ = some u from hu,← Nat.add_assoc];exact h7
theorem ens_news {w:World} {g o c:Nat} {l:List Ent} (h:EnS w (.slice (some ⟨g,o,none⟩) l.length c) l):∀ j u,(enW l)[j]? = some u → w.cell? ((⟨g,o,none⟩:Addr).add j) = some u:=by
 intro j u hj;rw [addr_at];exact h.cells j u hj
theorem EnS.of_cells {w:World} {g o n c:Nat} {l:List Ent} (hn:n = l.length) (hc:n ≤ c) (hg:g < w.heap.size) (h:∀ j u,(enW l)[j]? = some u → w.cell? ⟨g,o + j,none⟩ = some u):EnS w (.slice (some ⟨g,o,none⟩) n c) l:=by
 subst hn;refine ⟨_,_,rfl,hc,fun i hi => ⟨g,o,rfl,hg,?_,?_,?_,?_,?_⟩⟩
 · exact h (i * 5) _ (enW_at l i 0 hi (by omega))
 · rw [Nat.add_assoc];exact h (i * 5 + 1) _ (enW_at l i 1 hi (by omega))
 · rw [Nat.add_assoc];exact h (i * 5 + 2) _ (enW_at l i 2 hi (by omega))
 · rw [Nat.add_assoc];exact h (i * 5 + 3) _ (enW_at l i 3 hi (by omega))
 · rw [Nat.add_assoc];exact h (i * 5 + 4) _ (enW_at l i 4 hi (by omega))
def EnO (w:World) (base:Nat) (v:Value) (l:List Ent):Prop:=w.ownsRow base 36 5 v l.length (enW l)
def StO (w:World) (base:Nat) (v:Value) (l:List Nm):Prop:=w.ownsRow base 9 1 v l.length (strV l)
theorem EnO.ens {w:World} {base:Nat} {v:Value} {l:List Ent} (h:EnO w base v l):EnS w v l:=by
 rcases h.2 with ⟨rfl,h0⟩ | ⟨g,cap,cur,rfl,hb,hg,hnc,rest⟩
 · obtain rfl:=List.eq_nil_of_length_eq_zero h0;exact EnS.nil w
 · have hlt:g < w.heap.size:=(Array.getElem?_eq_some_iff.1 hg).1;refine EnS.of_cells rfl hnc hlt (fun j u hj => ?_);have:=World.ownsRow.cells h (g:=g) rfl j u hj;rw [addr_at] at this;exact this
theorem strV_at (l:List Nm) (i:Nat) (hi:i < l.length):(strV l)[i]? = some (.string ⟨l[i].toArray⟩):=by unfold strV;simp [hi]
theorem StO.sts {w:World} {base:Nat} {v:Value} {l:List Nm} (h:StO w base v l):StS w v l:=by
 rcases h.2 with ⟨rfl,h0⟩ | ⟨g,cap,cur,rfl,hb,hg,hnc,rest⟩
 · obtain rfl:=List.eq_nil_of_length_eq_zero h0;exact ⟨none,0,rfl,Nat.le_refl _,fun i hi => absurd hi (by simp)⟩
 · have hlt:g < w.heap.size:=(Array.getElem?_eq_some_iff.1 hg).1;refine ⟨_,_,rfl,hnc,fun i hi => ⟨g,0,rfl,hlt,?_⟩⟩;have:=World.ownsRow.cells h (g:=g) rfl i _ (strV_at l i hi);rw [addr_at] at this;exact this
theorem EnO.of_bl {w w':World} {base:Nat} {v:Value} {l:List Ent} (h:EnO w base v l) (hb:Bl w w'):EnO w' base v l:=own_bl h hb
theorem StO.of_bl {w w':World} {base:Nat} {v:Value} {l:List Nm} (h:StO w base v l) (hb:Bl w w'):StO w' base v l:=own_bl h hb
theorem Tryz.infoEnt:(Tryz.prog.info? 36).map (fun i => (i.zero,i.size,i.bytes)) = some (some (.agg #[.string ⟨#[]⟩,.string ⟨#[]⟩,.string ⟨#[]⟩,.int .i64 0,.string ⟨#[]⟩]),5,72):=by kernel_rfl
theorem cloneE_c (l:List Ent) (v:Value) (hl:l.length ≤ 100000000) (w:World) (hA:EnS w v l) :
 Calls Tryz.prog 43 #[v] w fun e w' => ∃ v', e = .returned v' ∧ EnO w' w.heap.size v' l∧Bl w w':=by
 unfold EnO;obtain ⟨i0,hi,hz0,hz1,hz2⟩:=info_parts Tryz.infoEnt;have hA':=hA;obtain ⟨ao,cap,rfl,hcap,hA⟩:=hA;have hnil:=fun (W:World) (a:Option Addr) (n c:Nat) => Lib.run_eql_slice_nil (P:=Tryz.prog) W 22 36 a n c 0 0 Tryz.underlying22
 cases ao with
 | none =>
   have h0:l = []:=by
    rcases l with _ | ⟨a,l⟩
    · rfl
    · obtain ⟨g,o,e,_⟩:=hA 0 (by simp);cases e
   subst h0;clear hA hA';go_enter Tryz.func43,Tryz.ntmps43;go_wp2;go_ret;exact ⟨_,rfl,World.ownsRow_nil _ _ _ _,Bl.refl _⟩
 | some a =>
   by_cases h0:l = []
   · subst h0;clear hA hA';go_enter Tryz.func43,Tryz.ntmps43;go_wp2;go_ret;exact ⟨_,rfl,World.ownsRow_made (base:=w.heap.size) (e:=36) (size:=5) w #[] 0 (Nat.le_refl _) (by decide) rfl,(Bl.refl _).alloc _⟩
   · have hpos:=List.length_pos_iff.2 h0;obtain ⟨g,o,e,_⟩:=hA 0 hpos;cases e;have HN:=Lib.hid hA';clear hA hA' h0;go_enter Tryz.func43,Tryz.ntmps43;go_wp2_with (at_builtin;refine wpList_append_own _ rfl _ _ 22 rfl w.heap.size 36 i0 (.agg #[.string ⟨#[]⟩,.string ⟨#[]⟩,.string ⟨#[]⟩,.int .i64 0,.string ⟨#[]⟩]) 5 72 Tryz.underlying22 hi hz0 hz1 hz2 rfl (by decide) (.slice (some ⟨w.heap.size,0,none⟩) 0 0) 0 [] rfl (World.ownsRow_made (base:=w.heap.size) (e:=36) (size:=5) w #[] 0 (Nat.le_refl _) (by decide) rfl) ⟨g,o,none⟩ l.length cap (enW l) rfl (enW_len l) (ens_news (HN.out.of_bl ((Bl.refl _).alloc _))) (enW_one l) (by unfold maxLen;omega) (by omega) (by simp) ?_);intro v' wz hown' hgrow _;have hbz:Bl w wz:=Below.trans ((Bl.refl w).alloc _) (bel_gr hgrow (fun j hj => by simp only [Value.ownBlock,Option.some.injEq] at hj;omega) (by simp));have HO:=Lib.hid hown';obtain ⟨ao,c,rfl,-⟩:=own_shp hown';clear hgrow hown';go_wp2;go_ret;exact ⟨_,rfl,by have:=HO.out;simpa using this,hbz⟩
def KpS (w:World) (base b:Nat) (es:List Ent) (rd:List Nm):Prop :=
 ∃ ve vr,w.heap[b]? = some (.cells #[ve,vr] 57)∧base ≤ b∧EnO w base ve es∧StO w base vr rd
theorem own_up {w:World} {base base':Nat} {e:TypeId} {size n:Nat} {v:Value} {xs:List Value} (h:w.ownsRow base e size v n xs) (hb:base' ≤ base):w.ownsRow base' e size v n xs:=own_base h hb
theorem own_c (s:Shf) (v:Value) (h1:s.1.length ≤ 100000000) (h2:s.2.length ≤ 100000000) (w:World) (hS:ShS w v s) :
 Calls Tryz.prog 24 #[v] w fun e w' => ∃ b,e = .returned (.pointer (some ⟨b,0,none⟩))∧KpS w' w.heap.size b s.1 s.2∧Bl w w':=by
 obtain ⟨ve,vr,rfl,hEn,hRd⟩:=hS;have CE:=Lib.hid (fun W (hb:Bl w W) => cloneE_c s.1 ve h1 W (hEn.of_bl hb));have CS:=Lib.hid (fun W (hb:Bl w W) => cloneS_c s.2 vr h2 W (hRd.of_bl hb));obtain ⟨ao,cap,rfl,-⟩:=hEn;obtain ⟨ar,cr,rfl,-⟩:=hRd;have hB0:=B2.new w (.slice ao s.1.length cap) (.slice ar s.2.length cr) 25;go_enter Tryz.func24,Tryz.ntmps24;go_wp2;go_region_with (first | (go_at_call 43; (refine (CE.out _ Bl.z).mono ?_);rintro e w1 ⟨v1,rfl,hO1,hb1⟩;have hW1:Bl w w1:=Bl.trans Bl.z hb1;obtain ⟨l1,x1,y1⟩:=B2.of_bl (hB0.of_bl Bl.z) hb1;obtain ⟨ao1,c1,rfl,-⟩:=own_shp hO1) | (go_at_call 44; (refine (CS.out _ (Bl.trans hW1 Bl.z)).mono ?_);rintro e w2 ⟨v2,rfl,hO2,hb2⟩;obtain ⟨ao2,c2,rfl,-⟩:=own_shp hO2));all_goals
  go_wp2;go_ret;refine ⟨_,rfl,⟨_,_,heap_alloc_new _ _,?_,own_up (own_bl (own_bl hO1 hb2) Bl.z) ?_,own_up (own_bl hO2 Bl.z) ?_⟩,?_⟩
  · have h1:=Below.size hW1;have h2:=Below.size hb2;simp at h2 ⊢;omega
  · simp
  · have h1:=Below.size hW1;simp;exact h1
  · exact Bl.trans (Bl.trans (Bl.trans hW1 Bl.z) hb2) Bl.z
end Go.Proofs.YthnpljkekhieiaaGreatDoor

/- Shelves: what a right shelf is; the laws in plain words. · Shelves: Order; ids that were read; entries in memory. · Shelves: the reference: long texts, the order of texts, the order of entries, words in a row, the scheme, safe links. · Shelves: the reference's way to put entries and to mark ids, said plainly: it is the program's. · Shelves: the reference: does a text, an entry stand ahead; words in a row; sources; what an element may have. -/
import Derived.Test.YthnpljkekhieiaaGreatDoorGrpF
import Derived.Test.YthnpljkekhieiaaGreatDoorGrpM
import Derived.Laws.Cover1
import Derived.Test.YthnpljkekhieiaaGreatDoorGrpE
import Derived.Test.YthnpljkekhieiaaGreatDoorGrpC
import Derived.Test.YthnpljkekhieiaaGreatDoorGrpJ
set_option maxRecDepth 100000
set_option maxHeartbeats 4000000
namespace Go.Proofs.YthnpljkekhieiaaGreatDoor
open Go.RowKit
def Rs (s:Shf):Prop:=s.1.length ≤ 20∧s.2.length ≤ 40∧(Srt s.1∧Ids s.1∧∀ x ∈ s.1,chkE x = 0)∧s.2.Pairwise ltT∧∀ i ∈ s.2,i ≠ []∧i.length ≤ 60
theorem stE_zero (seen:List Ent) (x:Ent):stE seen x = 0 ↔ chkE x = 0∧(∀ y ∈ seen,eI y ≠ eI x)∧∀ p,seen.getLast? = some p → Ahd p x:=by
 unfold stE;by_cases h1:chkE x = 0
 · rw [if_neg (by simpa using h1)];by_cases h2:(seen.any fun y => decide (eI y = eI x)) = true
   · rw [if_pos h2];constructor
     · intro h;omega
     · rintro ⟨_,h,_⟩;obtain ⟨y,hy,e⟩:=List.any_eq_true.1 h2;exact absurd (by simpa using e) (h y hy)
   · rw [if_neg h2];have h3:∀ y ∈ seen,eI y ≠ eI x:=fun y hy e => h2 (List.any_eq_true.2 ⟨y,hy,by simpa using e⟩)
     cases hp:seen.getLast? with
     | none =>
       rw [if_neg (by simp)];simp only [true_iff];exact ⟨h1,h3,fun q e => by cases e⟩
     | some p =>
       by_cases h4:Ahd p x
       · rw [if_neg (by rw [Option.any_some,decide_eq_true_eq,ordE_nn];exact fun h => h h4)];simp only [true_iff];exact ⟨h1,h3,fun q e => by cases e;exact h4⟩
       · rw [if_pos (by rw [Option.any_some,decide_eq_true_eq,ordE_nn];exact h4)];constructor
         · intro h;omega
         · rintro ⟨_,_,h⟩;exact absurd (h p rfl) h4
 · rw [if_pos h1];constructor
   · intro h;exact absurd h h1
   · rintro ⟨h,_⟩;exact absurd h h1
theorem pw_snoc {α:Type} (R:α → α → Prop) (ht:∀ a b c:α,R a b → R b c → R a c) {l:List α} (h:l.Pairwise R) {x:α} (hx:∀ p,l.getLast? = some p → R p x):∀ y ∈ l,R y x:=by
 intro y hy;rcases List.eq_nil_or_concat l with rfl | ⟨m,p,rfl⟩
 · simp at hy
 · simp only [List.concat_eq_append] at *;have hp:=hx p (by simp);obtain ⟨_,_,h3⟩:=List.pairwise_append.1 h;rcases List.mem_append.1 hy with k | k
   · exact ht _ _ _ (h3 y k p (by simp)) hp
   · simp only [List.mem_singleton] at k;subst k;exact hp
theorem enG_zero (r:List Ent):∀ (seen:List Ent),Srt seen → Ids seen → (enG seen r = 0 ↔ Srt (seen ++ r)∧Ids (seen ++ r)∧∀ x ∈ r,chkE x = 0):=by
 induction r with
 | nil => intro seen h1 h2;simp [enG,h1,h2]
 | cons x r ih =>
   intro seen h1 h2;have e:seen ++ x :: r = (seen ++ [x]) ++ r:=by simp
   unfold enG;by_cases h:stE seen x = 0
   · rw [if_neg (by simpa using h)];obtain ⟨k1,k2,k3⟩:=(stE_zero seen x).1 h;have a1:Srt (seen ++ [x]):=List.pairwise_append.2 ⟨h1,List.pairwise_singleton _ _,fun y hy z hz => by
      simp only [List.mem_singleton] at hz;subst hz;exact pw_snoc Ahd (fun _ _ _ => Ahd_trans) h1 k3 y hy⟩
     have a2:Ids (seen ++ [x]):=List.pairwise_append.2 ⟨h2,List.pairwise_singleton _ _,fun y hy z hz => by
      simp only [List.mem_singleton] at hz;subst hz;exact k2 y hy⟩
     rw [ih _ a1 a2,e];constructor
     · rintro ⟨b1,b2,b3⟩;exact ⟨b1,b2,fun y hy => by rcases List.mem_cons.1 hy with rfl | hy;exact k1;exact b3 y hy⟩
     · rintro ⟨b1,b2,b3⟩;exact ⟨b1,b2,fun y hy => b3 y (List.mem_cons_of_mem _ hy)⟩
   · rw [if_pos h];constructor
     · intro k;exact absurd k h
     · rintro ⟨b1,b2,b3⟩;refine absurd ((stE_zero seen x).2 ⟨b3 x (by simp),fun y hy => ?_,fun p hp => ?_⟩) h
       · exact (List.pairwise_append.1 b2).2.2 y hy x (by simp)
       · exact (List.pairwise_append.1 b1).2.2 p (List.mem_of_getLast? hp) x (by simp)
theorem rdT1_zero (p:Option Nm) (s:Nm):rdT1 p s = 0 ↔ s ≠ []∧s.length ≤ 60∧∀ q,p = some q → ltT q s:=by
 unfold rdT1;by_cases h1:s = []
 · rw [if_pos h1];simp [h1]
 · rw [if_neg h1];by_cases h2:60 < s.length
   · rw [if_pos h2];constructor
     · intro h;omega
     · rintro ⟨_,h,_⟩;omega
   · rw [if_neg h2];cases p with
     | none => simp [h1];omega
     | some q =>
       simp only [Option.any_some,Bool.not_eq_true'];by_cases h3:Op.bytesLess q s = true
       · rw [if_neg (by simp [h3])];simp only [true_iff];exact ⟨h1,by omega,fun u e => by cases e;exact h3⟩
       · rw [if_pos (by simpa using h3)];constructor
         · intro h;omega
         · rintro ⟨_,_,h⟩;exact absurd (h q rfl) h3
theorem rdG_zero (r:List Nm):∀ (seen:List Nm),seen.Pairwise ltT → (rdG seen.getLast? r = 0 ↔ (seen ++ r).Pairwise ltT∧∀ i ∈ r,i ≠ []∧i.length ≤ 60):=by
 induction r with
 | nil => intro seen h1;simp [rdG,h1]
 | cons x r ih =>
   intro seen h1;have e:seen ++ x :: r = (seen ++ [x]) ++ r:=by simp
   unfold rdG;by_cases h:rdT1 seen.getLast? x = 0
   · rw [if_neg (by simpa using h)];obtain ⟨k1,k2,k3⟩:=(rdT1_zero _ x).1 h;have a1:(seen ++ [x]).Pairwise ltT:=List.pairwise_append.2 ⟨h1,List.pairwise_singleton _ _,fun y hy z hz => by
      simp only [List.mem_singleton] at hz;subst hz;exact pw_snoc ltT (fun _ _ _ => ltT_trans) h1 k3 y hy⟩
     have h5:=ih (seen ++ [x]) a1;rw [List.getLast?_append,List.getLast?_singleton] at h5;simp only [Option.some_or] at h5;rw [h5,e];constructor
     · rintro ⟨b1,b3⟩;exact ⟨b1,fun y hy => by rcases List.mem_cons.1 hy with rfl | hy;exact ⟨k1,k2⟩;exact b3 y hy⟩
     · rintro ⟨b1,b3⟩;exact ⟨b1,fun y hy => b3 y (List.mem_cons_of_mem _ hy)⟩
   · rw [if_pos h];constructor
     · intro k;exact absurd k h
     · rintro ⟨b1,b3⟩;obtain ⟨c1,c2⟩:=b3 x (by simp);exact absurd ((rdT1_zero _ x).2 ⟨c1,c2,fun p hp => (List.pairwise_append.1 b1).2.2 p (List.mem_of_getLast? hp) x (by simp)⟩) h
theorem ckS_iff (s:Shf):ckS s = 0 ↔ Rs s:=by
 have h1:=enG_zero s.1 [] List.Pairwise.nil List.Pairwise.nil;have h2:=rdG_zero s.2 [] List.Pairwise.nil;simp only [List.nil_append,List.getLast?_nil] at h1 h2;unfold ckS Rs;by_cases h:20 < s.1.length ∨ 40 < s.2.length
 · rw [if_pos h];constructor
   · intro h;omega
   · rintro ⟨a,b,_⟩;omega
 · rw [if_neg h];by_cases h3:enG [] s.1 = 0
   · rw [if_neg (by simpa using h3),h2];rw [h1] at h3;constructor
     · intro k;exact ⟨by omega,by omega,h3,k⟩
     · rintro ⟨_,_,_,k⟩;exact k
   · rw [if_pos h3];constructor
     · intro k;exact absurd k h3
     · rintro ⟨_,_,k,_⟩;exact absurd (h1.2 k) h3
theorem enC_zero (l:List Ent):enC l = 0 ↔ ∀ x ∈ l,chkE x = 0:=by
 unfold enC;cases h:l.find? fun x => decide (chkE x ≠ 0) with
 | none =>
   simp only [true_iff];intro x hx;have:=List.find?_eq_none.1 h x hx;simpa using this
 | some x =>
   have h1:=List.find?_some h;have h2:=List.mem_of_find?_eq_some h;simp only [decide_eq_true_eq] at h1;constructor
   · intro k;exact absurd k h1
   · intro k;exact absurd (k x h2) h1
theorem putC_iff (s:Shf) (l:List Ent):putC s l = 0 ↔ Rs s∧l.length ≤ 12∧∀ x ∈ l,chkE x = 0:=by
 rw [← ckS_iff,← enC_zero];unfold putC;by_cases h:ckS s = 0
 · rw [if_neg (by simpa using h)];by_cases h2:12 < l.length
   · rw [if_pos h2];constructor
     · intro k;omega
     · rintro ⟨_,k,_⟩;omega
   · rw [if_neg h2];exact ⟨fun k => ⟨h,by omega,k⟩,fun k => k.2.2⟩
 · rw [if_pos h];exact ⟨fun k => absurd k h,fun k => absurd k.1 h⟩
theorem bsT_cut {l:List Nm} (h:l.Pairwise ltT) (x:Nm):bsT l x ≤ l.length∧(∀ y ∈ l.take (bsT l x),ltT y x)∧∀ y ∈ l.drop (bsT l x),¬ ltT y x:=by
 have H:=bs_cut (n:=l.length) (fun t => Op.bytesLess (l.getD t []) x) (fun a b hab hb hp => by
  by_cases e:a = b
  · subst e;exact hp
  · have h2:=pw_get h (show a < b by omega) hb;rw [getD_get _ _ _ hb] at hp;rw [getD_get _ _ _ (by omega)];exact ltT_trans h2 hp)
 refine ⟨H.1,fun y hy => ?_,fun y hy => ?_⟩
 · obtain ⟨t,ht,rfl⟩:=List.getElem_of_mem hy;rw [List.length_take] at ht;have:=H.2.1 t (by show t < bsT l x;omega);rw [getD_get _ _ _ (by omega)] at this;rw [List.getElem_take];exact this
 · obtain ⟨t,ht,rfl⟩:=List.getElem_of_mem hy;rw [List.length_drop] at ht;have:=H.2.2 (bsT l x + t) (by show bsT l x ≤ _;omega) (by omega);rw [getD_get _ _ _ (by omega)] at this;rw [List.getElem_drop];unfold ltT;rw [this];simp
theorem fnT_at {l:List Nm} {x:Nm} (h:fnT l x = true):∃ hk:bsT l x < l.length,l[bsT l x] = x:=by
 unfold fnT at h;obtain ⟨h1,h2⟩:=of_decide_eq_true h;rw [getD_get _ _ _ h1] at h2;exact ⟨h1,h2⟩
theorem fnT_iff {l:List Nm} (h:l.Pairwise ltT) (x:Nm):fnT l x = true ↔ x ∈ l:=by
 constructor
 · intro k;obtain ⟨hk,e⟩:=fnT_at k;rw [← e];exact List.getElem_mem hk
 · intro k;obtain ⟨c1,c2,c3⟩:=bsT_cut h x;have h4:(l.take (bsT l x) ++ l.drop (bsT l x)).Pairwise ltT:=by rw [List.take_append_drop];exact h
   have k2:=k;rw [← List.take_append_drop (bsT l x) l] at k2;rcases List.mem_append.1 k2 with k3 | k3
   · exact absurd (c2 x k3) (ltT_irr x)
   · have hlt:bsT l x < l.length:=by
      rcases Nat.lt_or_ge (bsT l x) l.length with q | q
      · exact q
      · rw [List.drop_of_length_le q] at k3;simp at k3
     unfold fnT;refine decide_eq_true ⟨hlt,?_⟩;rw [getD_get _ _ _ hlt];rw [List.drop_eq_getElem_cons hlt] at k3 h4;rcases List.mem_cons.1 k3 with e | e
     · exact e.symm
     · have:=(List.pairwise_cons.1 (List.pairwise_append.1 h4).2.1).1 x e;exact absurd this (c3 _ (by rw [List.drop_eq_getElem_cons hlt];exact List.mem_cons_self))
theorem fnT_no {l:List Nm} (h:l.Pairwise ltT) {x:Nm} (hx:x ∉ l):fnT l x = false:=by
 cases e:fnT l x with
 | false => rfl
 | true => exact absurd ((fnT_iff h x).1 e) hx
def Tm (x:Ent):Prop:=0 ≤ eA x∧eA x ≤ 4102444799
theorem tm_of {x:Ent} (h:chkE x = 0):Tm x:=by
 unfold chkE at h;unfold Tm
 (repeat' split at h) <;> omega
theorem order_c (x y:Ent) (hx:Tm x) (hy:Tm y) (w:World) :
 Calls Tryz.prog 32 #[enV x,enV y] w fun e w' => e = .returned (.int .i64 (ordE x y))∧w' = (w.alloc (enO x 36)).alloc (enO y 36):=by
 obtain ⟨x1,x2⟩:=hx;obtain ⟨y1,y2⟩:=hy;have CC:=Lib.hid (fun W => (Tryz.strings_Compare ⟨(eI x).toArray⟩ ⟨(eI y).toArray⟩ W).mono fun e w' ⟨h1,h2⟩ => (⟨by rw [h1];rfl,h2.symm⟩:e = Ending.returned (.int .i64 (cmpT (eI x) (eI y)))∧W = w'));unfold enV;by_cases h:eA x = eA y
 · have HR:=Lib.hid (show ordE x y = cmpT (eI x) (eI y) by unfold ordE;rw [if_neg (by simpa using h)]);have h':(eA x != eA y) = false:=by simp [h]
   clear h;go_enter Tryz.func32,Tryz.ntmps32;go_wp2_with (go_at_call 54; (with_reducible refine (CC.out _).mono ?_);rintro e w1 ⟨rfl,rfl⟩);go_ret;exact ⟨ret_int (by rw [HR.out]),rfl⟩
 · have HR:=Lib.hid (show ordE x y = eA y - eA x by unfold ordE;rw [if_pos h]);have h':(eA x != eA y) = true:=by simp [h]
   clear h;go_enter Tryz.func32,Tryz.ntmps32;go_wp2;go_ret;exact ⟨ret_int (by rw [HR.out]),rfl⟩
def prv (l:List Nm) (k:Nat):Option Nm:=if k = 0 then none else l[k - 1]?
theorem rdG_at (l:List Nm) (k:Nat) (h:k < l.length):rdG (prv l k) (l.drop k) = if rdT1 (prv l k) l[k] ≠ 0 then rdT1 (prv l k) l[k] else rdG (prv l (k + 1)) (l.drop (k + 1)):=by
 rw [List.drop_eq_getElem_cons h,rdG];have e:prv l (k + 1) = some l[k]:=by unfold prv;rw [if_neg (by omega)];simp [h]
 rw [e]
theorem rdT1_in (p:Option Nm) (s:Nm) (h1:s ≠ []) (h2:¬ 60 < s.length):rdT1 p s = if (p.any fun q => !Op.bytesLess q s) = true then 4 else 0:=by
 unfold rdT1;rw [if_neg h1,if_neg h2]
theorem leq_not (s p:Nm):(Op.bytesLess s p || s == p) = !Op.bytesLess p s:=by
 cases h:Op.bytesLess p s with
 | true =>
   have h1:Op.bytesLess s p = false:=by
    cases h2:Op.bytesLess s p with
    | false => rfl
    | true => exact absurd (ltT_trans (show ltT s p from h2) h) (ltT_irr s)
   have h3:s ≠ p:=by rintro rfl;exact ltT_irr s h
   simp [h1,h3]
 | false =>
   by_cases e:s = p
   · simp [e]
   · rcases ltT_tot s p e with k | k
     · unfold ltT at k;simp [k]
     · unfold ltT at k;rw [k] at h;cases h
theorem idsR_c (l:List Nm) (v:Value) (hl:l.length ≤ 1099511627776) (w:World) (hA:StS w v l) :
 Calls Tryz.prog 33 #[v] w fun e w' => e = .returned (.int .i64 (rdG none l))∧Bl w w':=by
 obtain ⟨ao,cap,rfl,hc,hA⟩:=hA;go_enter Tryz.func33,Tryz.ntmps33;go_wp2;go_loopw [7] (fun i wr => ∃ k:Nat,k ≤ l.length∧i = .int .i64 k∧Hid (rdG none l = rdG (prv l k) (l.drop k))∧Bl w wr) (fun i _ => l.length - (intOf i).toNat);case atStart => exact ⟨0,Nat.zero_le _,rfl,Lib.hid rfl,Bl.refl _⟩
 case round =>
  obtain ⟨k,hk,rfl,HP,hbl⟩:=hrel;by_cases hlt:k < l.length
  · obtain ⟨g,o,rfl,hg,h1⟩:=hA k hlt;have x1:=(hbl.cells.1 g _ hg).trans h1;have HS:=Lib.hid (HP.out.trans (rdG_at l k hlt));have HT:=Lib.hid (rdT1_in (prv l k) l[k]);have HP0:=Lib.hid (show k = 0 → prv l k = none from fun e => by unfold prv;rw [if_pos e]);have HP1:∀ _:k ≠ 0,∃ p,prv l k = some p∧wr.cell? ⟨g,o + (k - 1),none⟩ = some (.string ⟨p.toArray⟩):=fun e => by
     obtain ⟨g', o', e2,hg', h2⟩:=hA (k - 1) (by omega);cases e2;refine ⟨l[k - 1],?_,(hbl.cells.1 g _ hg).trans h2⟩;unfold prv;rw [if_neg e,List.getElem?_eq_getElem (by omega)]
    have HT1:=Lib.hid (show l[k] = [] → rdT1 (prv l k) l[k] = 1 from fun e => by unfold rdT1;rw [if_pos e]);have HT2:=Lib.hid (show l[k] ≠ [] → 60 < l[k].length → rdT1 (prv l k) l[k] = 2 from fun e e2 => by unfold rdT1;rw [if_neg e,if_pos e2]);obtain ⟨s,hs⟩:∃ s,s = l[k]:=⟨_,rfl⟩;obtain ⟨P,hP⟩:∃ P,P = prv l k:=⟨_,rfl⟩;rw [← hs,← hP] at HS HT HT1 HT2;rw [← hs] at x1;rw [← hP] at HP0 HP1;clear h1 hA HP hs hP;by_cases hse:s = []
    · have HF:=Lib.hid (HT1.out hse);subst hse;go_wp2;go_ret;exact ⟨ret_int (by rw [HS.out,HF.out];rfl),hbl⟩
    · have hse':s.isEmpty = false:=by cases s <;> simp_all
      by_cases hsl:60 < s.length
      · have HF:=Lib.hid (HT2.out hse hsl);have hsl':(60:Int) < (s.length:Int):=by omega
        clear hse hsl;go_wp2;go_ret;exact ⟨ret_int (by rw [HS.out,HF.out];rfl),hbl⟩
      · have hsl':¬ (60:Int) < (s.length:Int):=by omega
        have HT3:=Lib.hid (HT.out hse hsl);clear hse hsl HT1 HT2 HT;by_cases hk0:k = 0
        · have HF:=Lib.hid (show rdT1 P s = 0 by rw [HT3.out,HP0.out hk0];rfl);subst hk0;rw [Nat.add_zero] at x1;clear HP1;go_wp2;go_roundw;case rel => exact ⟨1,by omega,by go_num,Lib.hid (by rw [HS.out,HF.out];rfl),hbl⟩
          case measure => simp [intOf];omega
        · obtain ⟨p,hp,xp⟩:=HP1 hk0;have HT4:=Lib.hid (show rdT1 P s = if (!Op.bytesLess p s) = true then 4 else 0 by rw [HT3.out,hp];rfl);have hk1:(0:Int) < (k:Int):=by omega
          have hk2:((k:Int) - 1) = ((k - 1:Nat):Int):=by omega
          have HLE:=Lib.hid (leq_not s p);clear HP1 hp HP0 HT3 hk0;cases hb:Op.bytesLess p s with
          | true =>
            have HF:=Lib.hid (show rdT1 P s = 0 by rw [HT4.out,hb];rfl);have hle:(Op.bytesLess s p || s == p) = false:=by rw [HLE.out,hb];rfl
            clear hb;go_wp2;go_roundw;case rel => exact ⟨k + 1,by omega,by go_num,Lib.hid (by rw [HS.out,HF.out];rfl),hbl⟩
            case measure => simp [intOf];omega
          | false =>
            have HF:=Lib.hid (show rdT1 P s = 4 by rw [HT4.out,hb];rfl);have hle:(Op.bytesLess s p || s == p) = true:=by rw [HLE.out,hb];rfl
            clear hb;go_wp2;go_ret;exact ⟨ret_int (by rw [HS.out,HF.out];rfl),hbl⟩
  · have HF:=Lib.hid (show rdG none l = 0 by rw [HP.out,List.drop_of_length_le (by omega)];rfl);go_wp2;go_ret;exact ⟨ret_int (by rw [HF.out]),hbl⟩
def EnS (w:World) (v:Value) (l:List Ent):Prop :=
 ∃ ao cap, v = .slice ao l.length cap ∧ l.length ≤ cap ∧ ∀ i (h : i < l.length), ∃ g o, ao = some ⟨g, o, none⟩ ∧ g < w.heap.size ∧ w.cell? ⟨g, o + i * 5, none⟩ = some (.string ⟨(eI l[i]).toArray⟩) ∧ w.cell? ⟨g, o + i * 5 + 1, none⟩ = some (.string ⟨(eT l[i]).toArray⟩) ∧
   w.cell? ⟨g,o + i * 5 + 2,none⟩ = some (.string ⟨(eL l[i]).toArray⟩)∧w.cell? ⟨g,o + i * 5 + 3,none⟩ = some (.int .i64 (eA l[i]))∧w.cell? ⟨g,o + i * 5 + 4,none⟩ = some (.string ⟨(eH l[i]).toArray⟩)
theorem EnS.of_bl {w w':World} {v:Value} {l:List Ent} (h:EnS w v l) (hb:Bl w w'):EnS w' v l:=by
 obtain ⟨ao,cap,rfl,hc,h⟩:=h;refine ⟨ao,cap,rfl,hc,fun i hi => ?_⟩;obtain ⟨g,o,h1,h2,h3,h4,h5,h6,h7⟩:=h i hi;exact ⟨g,o,h1,Nat.lt_of_lt_of_le h2 (Below.size hb),(hb.cells.1 g _ h2).trans h3,(hb.cells.1 g _ h2).trans h4,(hb.cells.1 g _ h2).trans h5,(hb.cells.1 g _ h2).trans h6,(hb.cells.1 g _ h2).trans h7⟩
theorem EnS.nil (w:World):EnS w (.slice none 0 0) []:=⟨none,0,rfl,Nat.le_refl _,fun i hi => absurd hi (by simp)⟩
def ShS (w:World) (v:Value) (s:Shf):Prop:=∃ ve vr,v = .agg #[ve,vr]∧EnS w ve s.1∧StS w vr s.2
theorem ShS.of_bl {w w':World} {v:Value} {s:Shf} (h:ShS w v s) (hb:Bl w w'):ShS w' v s:=by
 obtain ⟨ve,vr,e,h1,h2⟩:=h;exact ⟨ve,vr,e,h1.of_bl hb,h2.of_bl hb⟩
theorem isLongR_c (s:List UInt8) (w:World):Calls Tryz.prog 38 #[.string ⟨s.toArray⟩] w fun e w' => e = .returned (.bool (decide (3000 < s.length)))∧w = w':=by
 have HD:=Lib.hid (show decide (3000 < s.length) = decide ((3000:Int) < (s.length:Int)) by rw [decide_eq_decide];omega);go_enter Tryz.func38,Tryz.ntmps38;go_wp2;go_ret;exact ⟨ret_bool (by rw [HD.out]),rfl⟩
def schG:Nat → List UInt8 → Nat
 | _,[] => 0
 | i,c :: r => if c = 58 then i else if okU i c = true then schG (i + 1) r else 0
def okF:Nat → List UInt8 → Bool
 | _,[] => true
 | i,c :: r => okU i c && okF (i + 1) r
theorem okF_iff (l:List UInt8):∀ i,okF i l = true ↔ ∀ j (h:j < l.length),okU (i + j) l[j] = true:=by
 induction l with
 | nil => intro i;simp [okF]
 | cons c r ih =>
   intro i;rw [okF,Bool.and_eq_true,ih];constructor
   · rintro ⟨h1,h2⟩ j hj;cases j with
     | zero => exact h1
     | succ j =>
       have:=h2 j (by simpa using hj);rw [show i + 1 + j = i + (j + 1) by omega] at this;exact this
   · intro h;refine ⟨h 0 (by simp),fun j hj => ?_⟩;have:=h (j + 1) (by simpa using hj);rw [show i + (j + 1) = i + 1 + j by omega] at this;exact this
theorem okF_us (l:List UInt8):okF 0 l = okUs l:=by
 rw [Bool.eq_iff_iff,okF_iff,okUs_iff];simp only [Nat.zero_add]
theorem stop_ok {c:UInt8} (h:stopU c = true) (h58:c ≠ 58) (i:Nat):okU i c = false:=by
 have n58:c.toNat ≠ 58:=fun e => h58 ((c58 c).2 e)
 unfold stopU at h;simp only [Bool.or_eq_true,decide_eq_true_eq] at h;rw [Bool.eq_false_iff];intro ho;unfold okU ltr lwr at ho;simp only [Bool.or_eq_true,Bool.and_eq_true,decide_eq_true_eq] at ho;omega
theorem schG_eq (r:List UInt8):∀ i,schG i r = match r.findIdx? stopU with
 | none => 0
 | some k => if r[k]? = some 58∧okF i (r.take k) = true then i + k else 0:=by
 induction r with
 | nil => intro i;rfl
 | cons c r ih =>
   intro i;rw [schG,List.findIdx?_cons];cases hs:stopU c with
   | true =>
     by_cases h58:c = 58
     · simp [h58,okF]
     · have ho:=stop_ok hs h58 i;simp [h58,ho]
   | false =>
     have h58:c ≠ 58:=by rintro rfl;exact absurd hs (by decide)
     rw [if_neg h58,ih (i + 1)];cases hf:r.findIdx? stopU with
     | none => simp
     | some k =>
       simp only [Bool.false_eq_true,if_false,Option.map_some,List.getElem?_cons_succ,List.take_succ_cons,okF,Bool.and_eq_true];by_cases ho:okU i c = true
       · rw [if_pos ho];by_cases hb:r[k]? = some 58∧okF (i + 1) (r.take k) = true
         · rw [if_pos hb,if_pos ⟨hb.1,ho,hb.2⟩];omega
         · rw [if_neg hb,if_neg (fun h => hb ⟨h.1,h.2.2⟩)]
       · rw [if_neg ho,if_neg (fun h => ho h.2.1)]
theorem schG_sch (s:List UInt8):schG 0 s = schU s:=by
 rw [schG_eq];unfold schU;cases s.findIdx? stopU with
 | none => rfl
 | some k =>
   simp only [okF_us,Nat.zero_add]
theorem fld_58 (c:UInt8):fld c = 58 ↔ c = 58:=by
 have h:=fld_nat c;rw [c58,c58];by_cases hu:65 ≤ c.toNat∧c.toNat ≤ 90
 · rw [if_pos hu] at h;omega
 · rw [if_neg hu] at h;omega
theorem okU_fld (i:Nat) (c:UInt8):okU i (fld c) = okU i c:=by
 rw [Bool.eq_iff_iff,okU_iff,okU_iff];have h:=fld_nat c;have h2:=fld_nat (fld c);have:(fld (fld c)).toNat = (fld c).toNat:=by
  rw [h2,if_neg];by_cases hu:65 ≤ c.toNat∧c.toNat ≤ 90
  · rw [if_pos hu] at h;omega
  · rw [if_neg hu] at h;omega
 rw [this]
theorem schG_fold (s:List UInt8):∀ i,schG i (fold s) = schG i s:=by
 induction s with
 | nil => intro i;rfl
 | cons c s ih =>
   intro i;show schG i (fld c :: fold s) = _;rw [schG,schG,okU_fld,ih];simp only [fld_58]
theorem isU_ref (s:List UInt8):isU s = (decide (fold ((s.filter fun c => decide (32 < c.toNat)).take (schG 0 (s.filter fun c => decide (32 < c.toNat)))) = sHttp) || decide (fold ((s.filter fun c => decide (32 < c.toNat)).take (schG 0 (s.filter fun c => decide (32 < c.toNat)))) = sHttps) || decide (fold ((s.filter fun c => decide (32 < c.toNat)).take (schG 0 (s.filter fun c => decide (32 < c.toNat)))) = sMail)):=by
 have e:prU (shrU s) = fold ((s.filter fun c => decide (32 < c.toNat)).take (schG 0 (s.filter fun c => decide (32 < c.toNat)))):=by
  unfold prU shrU;rw [← schG_sch,schG_fold];unfold fold;rw [List.map_take]
 unfold isU;rw [e]
theorem schG_le (s:List UInt8):schG 0 s ≤ s.length:=by rw [schG_sch];exact schU_le s
theorem okU_no {c:UInt8} (hl:ltr c = false) (k:Nat):okU k c = true ↔ k ≠ 0∧((48 ≤ c.toNat∧c.toNat ≤ 57) ∨ c.toNat = 43 ∨ c.toNat = 45 ∨ c.toNat = 46):=by
 unfold okU;simp only [hl,Bool.false_or,Bool.and_eq_true,Bool.or_eq_true,decide_eq_true_eq];omega
theorem schemeOf_c (s:List UInt8) (hs:s.length ≤ 1000000) (w:World) :
 Calls Tryz.prog 60 #[.string ⟨s.toArray⟩] w fun e w' => e = .returned (.int .i64 (schG 0 s:Nat))∧w = w':=by
 go_enter Tryz.func60,Tryz.ntmps60;go_wp2;go_loop [3] (fun i => ∃ k:Nat,k ≤ s.length∧i = .int .i64 k∧Hid (schG 0 s = schG k (s.drop k))) (fun i => s.length - (intOf i).toNat);case atStart => exact ⟨0,Nat.zero_le _,rfl,Lib.hid rfl⟩
 case round =>
  obtain ⟨k,hk,rfl,HP⟩:=hrel;by_cases hlt:k < s.length
  · have HD:=Lib.hid (List.drop_eq_getElem_cons hlt);have hc:=u8_lt s[k];have LC:=Lib.hid (fun W => isLetter_c s[k] W);have BC:=Lib.hid (fun W => between_c (s[k].toNat:Int) 48 57 W);by_cases h58:s[k].toNat = 58
    · have HE:=Lib.hid (show schG 0 s = k from by rw [HP.out,HD.out,schG,if_pos ((c58 _).2 h58)]);have z1:(s[k].toNat:Int) = 58:=by omega
      have z2:((s[k].toNat:Int) == 58) = true:=by simp [z1]
      clear h58;go_wp2;go_ret;exact ⟨ret_int (by rw [HE.out]),rfl⟩
    · have n58:¬ (s[k].toNat:Int) = 58:=by omega
      have n58':((s[k].toNat:Int) == 58) = false:=by simpa using n58
      have HS:=Lib.hid (show schG 0 s = if okU k s[k] = true then schG (k + 1) (s.drop (k + 1)) else 0 from by rw [HP.out,HD.out,schG,if_neg (fun e => h58 ((c58 _).1 e))]);clear h58;cases hl:ltr s[k]
      · rw [hl] at LC;have HO:=Lib.hid (okU_no hl k);by_cases hk0:k = 0
        · subst hk0;have HZ:=Lib.hid (show okU 0 s[0] = false from by rw [Bool.eq_false_iff];intro h;exact (HO.out.1 h).1 rfl);clear hl;go_wp2_with (go_at_call 77; (with_reducible refine (LC.out _).mono ?_);rintro e w2 ⟨rfl,rfl⟩);go_ret;exact ⟨ret_int (by rw [HS.out,HZ.out];rfl),rfl⟩
        · have z0:(0:Int) < (k:Int):=by omega
          clear hl;by_cases hd:48 ≤ s[k].toNat∧s[k].toNat ≤ 57
          · rw [show (decide ((48:Int) ≤ (s[k].toNat:Int)) && decide ((s[k].toNat:Int) ≤ 57)) = true by simp;omega] at BC;have HY:=Lib.hid (HO.out.2 ⟨hk0,.inl hd⟩);clear hd;go_wp2_with (first | (go_at_call 77; (with_reducible refine (LC.out _).mono ?_);rintro e w2 ⟨rfl,rfl⟩) | (go_at_call 39; (with_reducible refine (BC.out _).mono ?_);rintro e w2 ⟨rfl,rfl⟩));go_round;case rel => exact ⟨k + 1,by omega,by go_num,Lib.hid (by rw [HS.out,if_pos HY.out])⟩
            case measure => simp [intOf];omega
          · rw [show (decide ((48:Int) ≤ (s[k].toNat:Int)) && decide ((s[k].toNat:Int) ≤ 57)) = false by simp;omega] at BC;have hk0':=Lib.hid hk0;by_cases h43:s[k].toNat = 43
            · have HA:=Lib.hid h43;have y43':((s[k].toNat:Int) == 43) = true:=by rw [beq_iff_eq];omega
              clear h43;have HY:=Lib.hid (HO.out.2 ⟨hk0,.inr (.inl HA.out)⟩);clear hd;go_wp2_with (first | (go_at_call 77; (with_reducible refine (LC.out _).mono ?_);rintro e w2 ⟨rfl,rfl⟩) | (go_at_call 39; (with_reducible refine (BC.out _).mono ?_);rintro e w2 ⟨rfl,rfl⟩));go_round;case rel => exact ⟨k + 1,by omega,by go_num,Lib.hid (by rw [HS.out,if_pos HY.out])⟩
              case measure => simp [intOf];omega
            · have y43:¬ (s[k].toNat:Int) = 43:=by omega
              have y43':((s[k].toNat:Int) == 43) = false:=by simpa using y43
              by_cases h45:s[k].toNat = 45
              · have HA:=Lib.hid h45;have y45':((s[k].toNat:Int) == 45) = true:=by rw [beq_iff_eq];omega
                clear h45;have HY:=Lib.hid (HO.out.2 ⟨hk0,.inr (.inr (.inl HA.out))⟩);clear hd;go_wp2_with (first | (go_at_call 77; (with_reducible refine (LC.out _).mono ?_);rintro e w2 ⟨rfl,rfl⟩) | (go_at_call 39; (with_reducible refine (BC.out _).mono ?_);rintro e w2 ⟨rfl,rfl⟩));go_round;case rel => exact ⟨k + 1,by omega,by go_num,Lib.hid (by rw [HS.out,if_pos HY.out])⟩
                case measure => simp [intOf];omega
              · have y45:¬ (s[k].toNat:Int) = 45:=by omega
                have y45':((s[k].toNat:Int) == 45) = false:=by simpa using y45
                by_cases h46:s[k].toNat = 46
                · have HA:=Lib.hid h46;have y46':((s[k].toNat:Int) == 46) = true:=by rw [beq_iff_eq];omega
                  clear h46;have HY:=Lib.hid (HO.out.2 ⟨hk0,.inr (.inr (.inr HA.out))⟩);clear hd;go_wp2_with (first | (go_at_call 77; (with_reducible refine (LC.out _).mono ?_);rintro e w2 ⟨rfl,rfl⟩) | (go_at_call 39; (with_reducible refine (BC.out _).mono ?_);rintro e w2 ⟨rfl,rfl⟩));go_round;case rel => exact ⟨k + 1,by omega,by go_num,Lib.hid (by rw [HS.out,if_pos HY.out])⟩
                  case measure => simp [intOf];omega
                · have y46:¬ (s[k].toNat:Int) = 46:=by omega
                  have y46':((s[k].toNat:Int) == 46) = false:=by simpa using y46
                  have HN:=Lib.hid (show okU k s[k] = false from by rw [Bool.eq_false_iff];intro h;have:=(HO.out.1 h).2;omega);clear hd h43 h45 h46;go_wp2_with (first | (go_at_call 77; (with_reducible refine (LC.out _).mono ?_);rintro e w2 ⟨rfl,rfl⟩) | (go_at_call 39; (with_reducible refine (BC.out _).mono ?_);rintro e w2 ⟨rfl,rfl⟩));go_ret;exact ⟨ret_int (by rw [HS.out,HN.out];rfl),rfl⟩
      · rw [hl] at LC;have HO:=Lib.hid (show okU k s[k] = true from by unfold okU;rw [hl];rfl);clear hl;go_wp2_with (go_at_call 77; (with_reducible refine (LC.out _).mono ?_);rintro e w2 ⟨rfl,rfl⟩);go_round;case rel => exact ⟨k + 1,by omega,by go_num,Lib.hid (by rw [HS.out,if_pos HO.out])⟩
        case measure => simp [intOf];omega
  · have HE:=Lib.hid (show schG 0 s = 0 from by rw [HP.out,List.drop_eq_nil_of_le (by omega)];rfl);go_wp2;go_ret;exact ⟨ret_int (by rw [HE.out];rfl),rfl⟩
theorem isSafe_c (s:List UInt8) (hs:s.length ≤ 1000000) (w:World) :
 Calls Tryz.prog 40 #[.string ⟨s.toArray⟩] w fun e w' => e = .returned (.bool (isU s))∧Bl w w':=by
 have HR:=Lib.hid (isU_ref s);obtain ⟨T,hT⟩:∃ T,T = s.filter fun c => decide (32 < c.toNat):=⟨_,rfl⟩
 have hTl:T.length ≤ 1000000:=by rw [hT];exact Nat.le_trans (List.length_filter_le _ _) hs
 rw [← hT] at HR;have HTT:=Lib.hid hT;clear hT;have SC:=Lib.hid (fun W => schemeOf_c T hTl W);obtain ⟨n,hn⟩:∃ n,n = schG 0 T:=⟨_,rfl⟩;have hnl:n ≤ T.length:=by rw [hn];exact schG_le T
 rw [← hn] at SC HR;clear hn;have FC:=Lib.hid (fun W => foldOf_c (T.take n) (by rw [List.length_take];omega) W);obtain ⟨F,hF⟩:∃ F,F = fold (T.take n):=⟨_,rfl⟩;rw [← hF] at FC HR;clear hF;go_enter Tryz.func40,Tryz.ntmps40;go_wp2;go_loop [3,4] (fun o i => ∃ k:Nat,k ≤ s.length∧o = .string ⟨((s.take k).filter fun c => decide (32 < c.toNat)).toArray⟩∧i = .int .i64 k) (fun _ i => s.length - (intOf i).toNat);case atStart => exact ⟨0,Nat.zero_le _,rfl,rfl⟩
 case round =>
  obtain ⟨k,hk,rfl,rfl⟩:=hrel;by_cases hlt:k < s.length
  · have hb:=u8_lt s[k];have HT:=Lib.hid (take_snoc s k hlt);have hlt1:k + 1 ≤ s.length:=by omega
    have hlt2:(k:Int) + 1 ≤ s.length:=by omega
    have hp:((s.take k).filter fun c => decide (32 < c.toNat)).length ≤ 1000000:=Nat.le_trans (List.length_filter_le _ _) (by rw [List.length_take];omega);by_cases h32:32 < s[k].toNat
    · have z1:(32:Int) < (s[k].toNat:Int):=by omega
      have HZ:=Lib.hid h32;clear h32;go_wp2;go_round;case rel => exact ⟨k + 1,by omega,by rw [HT.out,List.filter_append];simp [HZ.out,take_one s k hlt],by go_num⟩
      case measure => simp [intOf];omega
    · have z1:¬ (32:Int) < (s[k].toNat:Int):=by omega
      have HZ:=Lib.hid h32;clear h32;go_wp2;go_round;case rel => exact ⟨k + 1,by omega,by rw [HT.out,List.filter_append];simp [HZ.out],by go_num⟩
      case measure => simp [intOf];omega
  · rw [show s.take k = s from List.take_of_length_le (by omega),← HTT.out];by_cases h1:F = sHttp
    · have HZ:=Lib.hid h1;have z1:(F == sHttp) = true:=by simpa using h1
      clear h1;unfold sHttp at z1;go_wp2_with (first | (go_at_call 60; (with_reducible refine (SC.out _).mono ?_);rintro e w2 ⟨rfl,rfl⟩) | (go_at_call 59; (with_reducible refine (FC.out _).mono ?_);rintro e w2 ⟨rfl,hb2⟩));go_ret;exact ⟨ret_bool (by rw [HR.out];simp [HZ.out]),hb2⟩
    · have HZ:=Lib.hid h1;have z1:(F == sHttp) = false:=by simpa using h1
      clear h1;unfold sHttp at z1;by_cases h2:F = sHttps
      · have HY:=Lib.hid h2;have z2:(F == sHttps) = true:=by simpa using h2
        clear h2;unfold sHttps at z2;go_wp2_with (first | (go_at_call 60; (with_reducible refine (SC.out _).mono ?_);rintro e w2 ⟨rfl,rfl⟩) | (go_at_call 59; (with_reducible refine (FC.out _).mono ?_);rintro e w2 ⟨rfl,hb2⟩));go_ret;exact ⟨ret_bool (by rw [HR.out];simp [HY.out]),hb2⟩
      · have HY:=Lib.hid h2;have z2:(F == sHttps) = false:=by simpa using h2
        clear h2;unfold sHttps at z2;by_cases h3:F = sMail
        · have HX:=Lib.hid h3;have z3:(F == sMail) = true:=by simpa using h3
          clear h3;unfold sMail at z3;go_wp2_with (first | (go_at_call 60; (with_reducible refine (SC.out _).mono ?_);rintro e w2 ⟨rfl,rfl⟩) | (go_at_call 59; (with_reducible refine (FC.out _).mono ?_);rintro e w2 ⟨rfl,hb2⟩));go_ret;exact ⟨ret_bool (by rw [HR.out];simp [HX.out]),hb2⟩
        · have HX:=Lib.hid h3;have z3:(F == sMail) = false:=by simpa using h3
          clear h3;unfold sMail at z3;go_wp2_with (first | (go_at_call 60; (with_reducible refine (SC.out _).mono ?_);rintro e w2 ⟨rfl,rfl⟩) | (go_at_call 59; (with_reducible refine (FC.out _).mono ?_);rintro e w2 ⟨rfl,hb2⟩));go_ret;exact ⟨ret_bool (by rw [HR.out];simp [HX.out,HY.out,HZ.out]),hb2⟩
def ahB (a b:Ent):Bool:=decide (eA b < eA a) || decide (eA a = eA b) && Op.bytesLess (eI a) (eI b)
theorem ahB_iff (a b:Ent):ahB a b = true ↔ Ahd a b:=by
 rw [Ahd_iff];unfold ahB ltT;simp
def rpG (x:Ent) (k:Int):Nat → List Ent → List Ent × Bool → List Ent × Bool
 | _,[],st => st
 | n,y :: r,st => rpG x k (n + 1) r (if (n:Int) = k then st else if st.2 = false∧ahB x y = true then (st.1 ++ [x,y],true) else (st.1 ++ [y],st.2))
def rpF (x:Ent) (st:List Ent × Bool):List Ent:=if st.2 then st.1 else st.1 ++ [x]
def plI (l:List Ent) (i:Nm):Int:=match plE l i with | some k => k | none => -1
def rput (l:List Ent) (x:Ent):List Ent :=
 if 0 ≤ plI l (eI x)∧eA x < eA (l.getD (plI l (eI x)).toNat default) then l else rpF x (rpG x (plI l (eI x)) 0 l ([],false))
theorem rpG_app (x:Ent) (k:Int) (a:List Ent):∀ (b:List Ent) (n:Nat) (st:List Ent × Bool),rpG x k n (a ++ b) st = rpG x k (n + a.length) b (rpG x k n a st):=by
 induction a with
 | nil => intro b n st;simp [rpG]
 | cons y a ih => intro b n st;simp only [List.cons_append,rpG,ih,List.length_cons];rw [show n + 1 + a.length = n + (a.length + 1) by omega]
theorem rpG_no (x:Ent) (k:Int) (a:List Ent):∀ (n:Nat) (st:List Ent × Bool),(∀ j:Nat,n ≤ j → j < n + a.length → (j:Int) ≠ k) → rpG x k n a st = rpG x (-1) 0 a st:=by
 have H:∀ (a:List Ent) (n m:Nat) (st:List Ent × Bool),(∀ j:Nat,n ≤ j → j < n + a.length → (j:Int) ≠ k) → rpG x k n a st = rpG x (-1) m a st:=by
  intro a;induction a with
  | nil => intro n m st _;rfl
  | cons y a ih =>
    intro n m st h;simp only [rpG];rw [if_neg (h n (Nat.le_refl _) (by simp)),if_neg (show ¬ (m:Int) = -1 by omega)];exact ih _ _ _ (fun j h1 h2 => h j (by omega) (by simp only [List.length_cons];omega))
 exact fun n st h => H a n 0 st h
theorem rpG_put (x:Ent) (a:List Ent):∀ (n:Nat) (o:List Ent),rpG x (-1) n a (o,true) = (o ++ a,true):=by
 induction a with
 | nil => intro n o;simp [rpG]
 | cons y a ih => intro n o;simp only [rpG];rw [if_neg (show ¬ (n:Int) = -1 by omega),if_neg (by simp),ih];simp
theorem rpG_head (x:Ent) (a:List Ent):∀ (n:Nat) (o:List Ent),(∀ y ∈ a,¬ Ahd x y) → rpG x (-1) n a (o,false) = (o ++ a,false):=by
 induction a with
 | nil => intro n o _;simp [rpG]
 | cons y a ih =>
   intro n o h;simp only [rpG];rw [if_neg (show ¬ (n:Int) = -1 by omega),if_neg (by rw [ahB_iff];exact fun e => h y (by simp) e.2),ih _ _ (fun z hz => h z (List.mem_cons_of_mem _ hz))];simp
theorem rp_ins {l:List Ent} (h:Srt l) (x:Ent) (hx:∀ y ∈ l,eI y ≠ eI x):rpF x (rpG x (-1) 0 l ([],false)) = insE l x:=by
 obtain ⟨c1,c2,c3⟩:=bsE_cut h x;have e:l = l.take (bsE l x) ++ l.drop (bsE l x):=(List.take_append_drop _ _).symm;have h1:∀ y ∈ l.take (bsE l x),¬ Ahd x y:=fun y hy k => Ahd_irr x (Ahd_trans k (c2 y hy))
 conv => lhs;rw [e]
 rw [rpG_app,rpG_head x _ _ _ h1,List.nil_append];unfold insE insA;cases hd:l.drop (bsE l x) with
 | nil => simp [rpG,rpF]
 | cons y r =>
   have hy:y ∈ l.drop (bsE l x):=by rw [hd];exact List.mem_cons_self
   have hA:Ahd x y:=by
    rcases Ahd_tot (fun e => hx y (List.mem_of_mem_drop hy) e.symm:eI x ≠ eI y) with k | k
    · exact k
    · exact absurd k (c3 y hy)
   simp only [rpG];rw [if_neg (show ¬ ((0 + (l.take (bsE l x)).length:Nat):Int) = -1 by omega),if_pos (by simp [(ahB_iff x y).2 hA]),rpG_put];simp [rpF]
theorem rput_eq {l:List Ent} (h:Srt l) (hi:Ids l) (x:Ent):rput l x = putE l x:=by
 unfold rput putE plI;cases hp:plE l (eI x) with
 | none =>
   simp only;rw [if_neg (by omega)];exact rp_ins h x (plE_none hp)
 | some k =>
   obtain ⟨hk,he⟩:=plE_some hp;simp only [Int.toNat_natCast];by_cases ha:eA x < eA (l.getD k default)
   · rw [if_pos ⟨by omega,ha⟩,if_pos ha]
   · rw [if_neg (fun e => ha e.2),if_neg ha];have hm:=mem_delA hi k hk;have hx:∀ y ∈ delA l k,eI y ≠ eI x:=fun y hy => by have:=((hm y).1 hy).2;rw [he] at this;exact this
     rw [← rp_ins (List.Pairwise.sublist (sub_delA l k) h) x hx];have e:l = l.take k ++ ([l[k]] ++ l.drop (k + 1)):=by rw [List.singleton_append,← List.drop_eq_getElem_cons hk,List.take_append_drop]
     have e2:rpG x (k:Int) 0 l ([],false) = rpG x (-1) 0 (delA l k) ([],false):=by
      conv => lhs;rw [e]
      unfold delA;have hl:(l.take k).length = k:=by rw [List.length_take];omega
      rw [rpG_app,rpG_app,rpG_app,rpG_no x k (l.take k) 0 _ (fun j _ h2 => by rw [hl] at h2;omega),hl];simp only [rpG,List.length_singleton];rw [if_pos (by omega),rpG_no x k (l.drop (k + 1)) _ _ (fun j h1 _ => by omega),rpG_no x (-1) (l.drop (k + 1)) (0 + k) _ (fun j _ _ => by omega)]
     rw [e2]
theorem rputs_eq (ls:List Ent):∀ {l:List Ent},Srt l → Ids l → ls.foldl rput l = ls.foldl putE l:=by
 induction ls with
 | nil => intro l _ _;rfl
 | cons x ls ih =>
   intro l h hi;obtain ⟨a1,a2,_⟩:=putE_ok h hi x;rw [List.foldl_cons,List.foldl_cons,rput_eq h hi];exact ih a1 a2
def rnew (s:List Ent) (x:Ent):Bool:=decide (plI s (eI x) < 0) || decide (s.getD (plI s (eI x)).toNat default ≠ x)
theorem rnew_eq {s:List Ent} (hi:Ids s) (x:Ent):rnew s x = !s.contains x:=by
 unfold rnew plI;cases hp:plE s (eI x) with
 | none =>
   have h:=plE_none hp;have:x ∉ s:=fun k => h x k rfl
   simp [this]
 | some k =>
   obtain ⟨hk,he⟩:=plE_some hp;simp only [Int.toNat_natCast];have hg:=getD_get s default k hk;simp only [hg];by_cases e:s[k] = x
   · have:x ∈ s:=by rw [← e];exact List.getElem_mem hk
     simp [e,this]
   · have:x ∉ s:=fun q => e (ids_inj hi (List.getElem_mem hk) q he)
     simp [e,this]
def rmG (i:Nm) (b:Bool):List Nm → List Nm × Bool → Option (List Nm × Bool)
 | [],st => some st
 | y :: r,st => if y = i then (if b then none else rmG i b r st) else rmG i b r (if st.2 = false∧Op.bytesLess i y = true then (st.1 ++ [i,y],true) else (st.1 ++ [y],st.2))
def rmF (i:Nm) (st:List Nm × Bool):List Nm:=if st.2 then st.1 else st.1 ++ [i]
def rmark (s:Shf) (i:Nm) (b:Bool):Int × List Nm :=
 if plE s.1 i = none then (5,[])
 else match rmG i b s.2 ([],!b) with
  | none => (0,s.2)
  | some st => if 40 < (rmF i st).length then (2,[]) else (0,rmF i st)
theorem rmG_in (i:Nm):∀ (l:List Nm) (st:List Nm × Bool),i ∈ l → rmG i true l st = none:=by
 intro l;induction l with
 | nil => intro st h;simp at h
 | cons y l ih =>
   intro st h;unfold rmG;by_cases e:y = i
   · rw [if_pos e,if_pos rfl]
   · rw [if_neg e];rcases List.mem_cons.1 h with k | k
     · exact absurd k.symm e
     · exact ih _ k
theorem rmG_app (i:Nm) (b:Bool) (a:List Nm) (hn:i ∉ a):∀ (c:List Nm) (st:List Nm × Bool),∃ st', rmG i b (a ++ c) st = rmG i b c st' ∧ (st.2 = true → st' = (st.1 ++ a,true))∧(st.2 = false → (∀ y ∈ a,¬ ltT i y) → st' = (st.1 ++ a,false)):=by
 induction a with
 | nil => intro c st;exact ⟨st,rfl,fun h => by rw [← h];simp,fun h _ => by rw [← h];simp⟩
 | cons y a ih =>
   intro c st;have e:y ≠ i:=fun h => hn (by simp [h])
   obtain ⟨st', h1,h2,h3⟩:=ih (fun h => hn (List.mem_cons_of_mem _ h)) c (if st.2 = false∧Op.bytesLess i y = true then (st.1 ++ [i,y],true) else (st.1 ++ [y],st.2));refine ⟨st', ?_,fun h => ?_,fun h hl => ?_⟩
   · rw [List.cons_append,rmG,if_neg e];exact h1
   · rw [if_neg (by simp [h])] at h2;have:=h2 h;rw [this];simp
   · have h4:¬ (st.2 = false∧Op.bytesLess i y = true):=fun k => hl y (by simp) k.2
     rw [if_neg h4] at h3;have:=h3 h (fun z hz => hl z (List.mem_cons_of_mem _ hz));rw [this];simp
theorem rmark_eq {s:Shf} (h:s.2.Pairwise ltT) (h40:s.2.length ≤ 40) (i:Nm) (b:Bool) (hk:plE s.1 i ≠ none) :
 rmark s i b = if b = true∧fnT s.2 i = false∧s.2.length = 40 then (2,[]) else (0,mkR s i b):=by
 unfold rmark mkR;rw [if_neg hk];cases b with
 | true =>
   by_cases hin:i ∈ s.2
   · have hf:=(fnT_iff h i).2 hin;rw [rmG_in i s.2 _ hin];simp [hf]
   · have hf:=fnT_no h hin;obtain ⟨c1,c2,c3⟩:=bsT_cut h i;have e:s.2 = s.2.take (bsT s.2 i) ++ s.2.drop (bsT s.2 i):=(List.take_append_drop _ _).symm;have ht:i ∉ s.2.take (bsT s.2 i):=fun k => hin (List.mem_of_mem_take k)
     obtain ⟨st', r1,_,r3⟩:=rmG_app i true (s.2.take (bsT s.2 i)) ht (s.2.drop (bsT s.2 i)) ([],!true);have r3:=r3 rfl (fun y hy k => ltT_irr i (ltT_trans k (c2 y hy)));rw [← e,r3] at r1;have hres:∃ st,rmG i true s.2 ([],!true) = some st∧rmF i st = insA s.2 (bsT s.2 i) i:=by
      rw [r1];unfold insA;cases hd:s.2.drop (bsT s.2 i) with
      | nil => exact ⟨_,rfl,by simp [rmF]⟩
      | cons y r =>
        have hy:y ∈ s.2.drop (bsT s.2 i):=by rw [hd];exact List.mem_cons_self
        have hA:ltT i y:=by
         rcases ltT_tot i y (fun e => hin (by rw [e];exact List.mem_of_mem_drop hy)) with k | k
         · exact k
         · exact absurd k (c3 y hy)
        have hyi:y ≠ i:=fun e => hin (by rw [← e];exact List.mem_of_mem_drop hy)
        have hr:i ∉ r:=fun k => hin (List.mem_of_mem_drop (by rw [hd];exact List.mem_cons_of_mem _ k))
        rw [rmG,if_neg hyi];simp only [List.nil_append];rw [if_pos (by simp [show Op.bytesLess i y = true from hA])];obtain ⟨st2,q1,q2,_⟩:=rmG_app i true r hr [] (List.take (bsT s.2 i) s.2 ++ [i,y],true);rw [List.append_nil] at q1;refine ⟨st2,q1,?_⟩;rw [q2 rfl];simp [rmF]
     obtain ⟨st,s1,s2⟩:=hres;rw [s1];simp only [s2,hf,if_true,true_and];rw [len_insA];by_cases e40:s.2.length = 40
     · rw [if_pos (by omega),if_pos e40]
     · rw [if_neg (by omega),if_neg e40];simp
 | false =>
   have hres:∃ st,rmG i false s.2 ([],!false) = some st∧rmF i st = if fnT s.2 i then delA s.2 (bsT s.2 i) else s.2:=by
    by_cases hin:i ∈ s.2
    · have hf:=(fnT_iff h i).2 hin;obtain ⟨hk1,hk2⟩:=fnT_at hf;have e:s.2 = s.2.take (bsT s.2 i) ++ s.2[bsT s.2 i] :: s.2.drop (bsT s.2 i + 1):=by rw [← List.drop_eq_getElem_cons hk1,List.take_append_drop]
      have h2:=h;rw [e] at h2;obtain ⟨b1,b2,b3⟩:=List.pairwise_append.1 h2;obtain ⟨d1,d2⟩:=List.pairwise_cons.1 b2;have ht:i ∉ s.2.take (bsT s.2 i):=fun k => ltT_irr i (by have:=b3 i k _ List.mem_cons_self;rw [hk2] at this;exact this)
      have hr:i ∉ s.2.drop (bsT s.2 i + 1):=fun k => ltT_irr i (by have:=d1 i k;rw [hk2] at this;exact this)
      obtain ⟨st', r1,r2,_⟩:=rmG_app i false (s.2.take (bsT s.2 i)) ht (s.2[bsT s.2 i] :: s.2.drop (bsT s.2 i + 1)) ([],!false);rw [← e,r2 rfl] at r1;obtain ⟨st2,q1,q2,_⟩:=rmG_app i false _ hr [] ([] ++ s.2.take (bsT s.2 i),true);rw [List.append_nil] at q1;refine ⟨st2,?_,?_⟩
      · rw [r1,rmG,if_pos hk2,if_neg (by simp),q1];rfl
      · rw [q2 rfl,if_pos hf];simp [rmF,delA]
    · have hf:=fnT_no h hin;obtain ⟨st2,q1,q2,_⟩:=rmG_app i false s.2 hin [] ([],!false);rw [List.append_nil] at q1;exact ⟨st2,q1,by rw [q2 rfl,hf];simp [rmF]⟩
   obtain ⟨st,s1,s2⟩:=hres;rw [s1];simp only [s2];have hlen:¬ 40 < (if fnT s.2 i = true then delA s.2 (bsT s.2 i) else s.2).length:=by
    split
    · have:=(sub_delA s.2 (bsT s.2 i)).length_le;omega
    · omega
   rw [if_neg hlen];simp
theorem less_nil (a:List UInt8):Op.bytesLess a [] = false:=by cases a <;> simp [Op.bytesLess]
theorem less_some {b:List UInt8} (h:b ≠ []):Op.bytesLess [] b = true:=by cases b with | nil => exact absurd rfl h | cons c r => simp [Op.bytesLess]
theorem textLess_c (a b:List UInt8) (ha:a.length ≤ 1099511627776) (_hb:b.length ≤ 1099511627776) (w:World) :
 Calls Tryz.prog 37 #[.string ⟨a.toArray⟩,.string ⟨b.toArray⟩] w fun e w' => e = .returned (.bool (Op.bytesLess a b))∧Qt w w':=by
 go_enter Tryz.func37,Tryz.ntmps37;go_wp2;go_loopw [5] (fun i wr => ∃ k:Nat,k ≤ a.length∧k ≤ b.length∧i = .int .i64 k∧Hid (Op.bytesLess a b = Op.bytesLess (a.drop k) (b.drop k))∧Qt w wr) (fun i _ => a.length - (intOf i).toNat);case atStart => exact ⟨0,Nat.zero_le _,Nat.zero_le _,rfl,Lib.hid rfl,Qt.refl _⟩
 case round =>
  obtain ⟨k,hk,hk2,rfl,HP,hq⟩:=hrel;by_cases hlt:k < a.length
  · by_cases hlb:k < b.length
    · have hlb':(k:Int) < (b.length:Int):=by omega
      have HA:=Lib.hid (List.drop_eq_getElem_cons hlt);have HB:=Lib.hid (List.drop_eq_getElem_cons hlb);have ca:=u8_lt a[k];have cb:=u8_lt b[k];by_cases he:a[k] = b[k]
      · have hz:((a[k].toNat:Int) != (b[k].toNat:Int)) = false:=by simp [he]
        have HE:=Lib.hid (show Op.bytesLess a b = Op.bytesLess (a.drop (k + 1)) (b.drop (k + 1)) from by rw [HP.out,HA.out,HB.out,Op.bytesLess,he];simp);clear he;go_wp2_with (go_quiet (fail));go_roundw;case rel => exact ⟨k + 1,by omega,by omega,by go_num,HE,(by repeat (first | exact hq | refine Qt.drewN ?_ _))⟩
        case measure => simp [intOf];omega
      · have hn:¬ (a[k].toNat:Int) = (b[k].toNat:Int):=fun e => he (UInt8.toNat_inj.1 (by omega))
        have hz:((a[k].toNat:Int) != (b[k].toNat:Int)) = true:=by simpa using hn
        have HE:=Lib.hid (show Op.bytesLess a b = decide (a[k].toNat < b[k].toNat) from by
         rw [HP.out,HA.out,HB.out,Op.bytesLess,Bool.eq_iff_iff];simp only [Bool.or_eq_true,Bool.and_eq_true,decide_eq_true_eq,beq_iff_eq,he,false_and,or_false,UInt8.lt_iff_toNat_lt])
        clear he;go_wp2_with (go_quiet (fail));go_ret;exact ⟨ret_bool (by rw [HE.out]),(by repeat (first | exact hq | refine Qt.drewN ?_ _))⟩
    · have hlb':¬ (k:Int) < (b.length:Int):=by omega
      have HE:=Lib.hid (show Op.bytesLess a b = decide (a.length < b.length) from by
       rw [HP.out,List.drop_eq_nil_of_le (by omega:b.length ≤ k),less_nil];symm;rw [decide_eq_false_iff_not];omega)
      go_wp2;go_ret;exact ⟨ret_bool (by rw [HE.out]),hq⟩
  · have HE:=Lib.hid (show Op.bytesLess a b = decide (a.length < b.length) from by
     rw [HP.out,List.drop_eq_nil_of_le (by omega:a.length ≤ k)];by_cases hb0:k < b.length
     · rw [less_some (by intro e;have:=congrArg List.length e;simp at this;omega)];symm;rw [decide_eq_true_iff];omega
     · rw [List.drop_eq_nil_of_le (by omega:b.length ≤ k),less_nil];symm;rw [decide_eq_false_iff_not];omega)
    go_wp2;go_ret;exact ⟨ret_bool (by rw [HE.out]),hq⟩
theorem isAheadG_c (a b:Ent) (ha:(eI a).length ≤ 1099511627776) (hb:(eI b).length ≤ 1099511627776) (w:World) :
 Calls Tryz.prog 36 #[enV a,enV b] w fun e w' => e = .returned (.bool (ahB a b))∧∃ n x y,w' = ((w.alloc x).alloc y).drewN n:=by
 have TC:=Lib.hid (fun W => textLess_c (eI a) (eI b) ha hb W);unfold enV;by_cases h1:eA b < eA a
 · have HE:=Lib.hid (show ahB a b = true from by unfold ahB;simp [h1]);go_enter Tryz.func36,Tryz.ntmps36;go_wp2;all_goals
    go_ret;first | exact ⟨ret_bool (by rw [HE.out]),0,_,_,rfl⟩ | exact ⟨ret_bool (by rw [HE.out]),n,_,_,rfl⟩
 · by_cases h2:eA a = eA b
   · have HE:=Lib.hid (show ahB a b = Op.bytesLess (eI a) (eI b) from by unfold ahB;simp [h2]);have h2':(eA a == eA b) = true:=by simpa using h2
     have HH:=Lib.hid h2;clear h2;go_enter Tryz.func36,Tryz.ntmps36;go_wp2_with (go_at_call 37; (with_reducible refine (TC.out _).mono ?_);rintro e w2 ⟨rfl,n,rfl⟩);all_goals
      go_ret;first | exact ⟨ret_bool (by rw [HE.out]),0,_,_,rfl⟩ | exact ⟨ret_bool (by rw [HE.out]),n,_,_,rfl⟩
   · have HE:=Lib.hid (show ahB a b = false from by unfold ahB;simp [h1,h2]);have h2':(eA a == eA b) = false:=by simpa using h2
     have HH:=Lib.hid h2;clear h2;go_enter Tryz.func36,Tryz.ntmps36;go_wp2;all_goals
      go_ret;first | exact ⟨ret_bool (by rw [HE.out]),0,_,_,rfl⟩ | exact ⟨ret_bool (by rw [HE.out]),n,_,_,rfl⟩
theorem inWords_c (l:List Nm) (v:Value) (i:Nm) (hl:l.length ≤ 1099511627776) (w:World) (hA:StS w v l) :
 Calls Tryz.prog 42 #[.string ⟨i.toArray⟩,v] w fun e w' => e = .returned (.bool (l.contains i))∧w = w':=by
 obtain ⟨ao,cap,rfl,hcap,hA⟩:=hA;go_enter Tryz.func42,Tryz.ntmps42;go_wp2;go_loopw [5] (fun j wr => ∃ k:Nat,k ≤ l.length∧j = .int .i64 k∧Hid (∀ j (h:j < l.length),j < k → l[j] ≠ i)∧w = wr) (fun j _ => l.length - (intOf j).toNat);case atStart => exact ⟨0,Nat.zero_le _,rfl,Lib.hid (fun j _ h => by omega),rfl⟩
 case round =>
  obtain ⟨k,hk,rfl,HP,rfl⟩:=hrel;by_cases hlt:k < l.length
  · obtain ⟨g,o,rfl,hg,h1⟩:=hA k hlt;clear hA;by_cases he:l[k] = i
    · have HE:=Lib.hid (show l.contains i = true from by rw [List.contains_iff_mem];exact he ▸ List.getElem_mem hlt);have hne:(l[k] == i) = true:=by simp [he]
      clear he;go_wp2;go_ret;exact ⟨ret_bool (by rw [HE.out]),rfl⟩
    · have HE:=Lib.hid he;have hne:(l[k] == i) = false:=by simpa using he
      clear he;go_wp2;go_roundw;case rel =>
       refine ⟨k + 1,by omega,by go_num,Lib.hid (fun j hj hjk => ?_),by trivial⟩;by_cases e:j = k
       · subst e;exact HE.out
       · exact HP.out j hj (by omega)
      case measure => simp [intOf];omega
  · have HE:=Lib.hid (show l.contains i = false from by
     rw [Bool.eq_false_iff,ne_eq,List.contains_iff_mem];intro h;obtain ⟨j,hj,e⟩:=List.getElem_of_mem h;exact HP.out j hj (by omega) e)
    clear hA;go_wp2;go_ret;exact ⟨ret_bool (by rw [HE.out]),rfl⟩
theorem hasSrcR_c (l:List Atr) (v:Value) (hl:l.length ≤ 1099511627776) (w:World) (hA:AtS w v l) :
 Calls Tryz.prog 81 #[v] w fun e w' => e = .returned (.bool (hasS l))∧w = w':=by
 obtain ⟨ao,cap,rfl,hA⟩:=hA;go_enter Tryz.func81,Tryz.ntmps81;go_wp2;go_loopw [3] (fun j wr => ∃ k:Nat,k ≤ l.length∧j = .int .i64 k∧Hid (∀ j (h:j < l.length),j < k → l[j].1 ≠ sSrc)∧w = wr) (fun j _ => l.length - (intOf j).toNat);case atStart => exact ⟨0,Nat.zero_le _,rfl,Lib.hid (fun j _ h => by omega),rfl⟩
 case round =>
  obtain ⟨k,hk,rfl,HP,rfl⟩:=hrel;by_cases hlt:k < l.length
  · obtain ⟨g,o,rfl,hg,h1,-⟩:=hA k hlt;clear hA;by_cases he:l[k].1 = sSrc
    · have HE:=Lib.hid (show hasS l = true from by unfold hasS;rw [List.any_eq_true];exact ⟨l[k],List.getElem_mem hlt,by simpa using he⟩);have hne:(l[k].1 == [115,114,99]) = true:=by simpa [sSrc] using he
      clear he;go_wp2;go_ret;exact ⟨ret_bool (by rw [HE.out]),rfl⟩
    · have HE:=Lib.hid he;have hne:(l[k].1 == [115,114,99]) = false:=by simpa [sSrc] using he
      clear he;go_wp2;go_roundw;case rel =>
       refine ⟨k + 1,by omega,by go_num,Lib.hid (fun j hj hjk => ?_),by trivial⟩;by_cases e:j = k
       · subst e;exact HE.out
       · exact HP.out j hj (by omega)
      case measure => simp [intOf];omega
  · have HE:=Lib.hid (show hasS l = false from by
     unfold hasS;rw [List.any_eq_false];intro x hx;obtain ⟨j,hj,rfl⟩:=List.getElem_of_mem hx;have:=HP.out j hj (by omega);simpa using this)
    clear hA;go_wp2;go_ret;exact ⟨ret_bool (by rw [HE.out]),rfl⟩
theorem allowedR_c (n:Nm) (w:World):Calls Tryz.prog 80 #[.string ⟨n.toArray⟩] w fun e w' => e = .returned (.bool (alwN n))∧Bl w w':=by
 have CC:=Lib.hid (fun W (h:StS W (.slice (some ⟨w.heap.size,0,none⟩) 14 14) alwL) => inWords_c alwL _ n (by decide) W h);have HS:=Lib.hid (sts_new w alwL 9 14 (by decide));go_enter Tryz.func80,Tryz.ntmps80;go_wp2_with (go_at_call 42; (with_reducible refine (CC.out _ HS.out).mono ?_);rintro e w' ⟨rfl,rfl⟩);go_ret;exact ⟨ret_bool (by unfold alwN;simp),(Bl.refl _).alloc _⟩
theorem mayHaveR_c (e n:Nm) (w:World):Calls Tryz.prog 82 #[.string ⟨e.toArray⟩,.string ⟨n.toArray⟩] w fun x w' => x = .returned (.bool (mayA e n))∧w = w':=by
 go_enter Tryz.func82,Tryz.ntmps82;go_wp2;all_goals (go_ret;exact ⟨ret_bool (by rw [Bool.eq_iff_iff];simp_all [mayA,sA,sImg,sHref,sTitle,sSrc,sAlt] <;> exact decide_eq_true_iff.symm),rfl⟩)
end Go.Proofs.YthnpljkekhieiaaGreatDoor

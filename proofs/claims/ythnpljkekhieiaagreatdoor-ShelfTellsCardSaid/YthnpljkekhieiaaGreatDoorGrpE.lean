/- Tokens: the reader's steps, said by what is left of the text; begins, letterAt, to, Folded. · Tokens: small letters: Folded of the program, FoldOf of the reference. · Links: small letters; the first of some bytes, whatever the bytes are. -/
import Derived.Test.YthnpljkekhieiaaGreatDoorTokD
import Derived.Test.YthnpljkekhieiaaGreatDoorGrpC
import Derived.Test.YthnpljkekhieiaaGreatDoorShelf
import Derived.Lib.OthersKept
import Derived.Lib.TrimU
import Derived.Lib.FieldsU
set_option maxRecDepth 100000
set_option maxHeartbeats 4000000
namespace Go.Proofs.YthnpljkekhieiaaGreatDoor
open Go.RowKit
structure Rr (w:World) (b:Nat) (s t x:List UInt8) (v:Value):Prop where
 rk:Rk w b s (s.length - t.length) x v
 sf:t <:+ s
theorem sfx_drop {s t:List UInt8} (h:t <:+ s):s.drop (s.length - t.length) = t:=by
 obtain ⟨p,rfl⟩:=h;simp
theorem Rr.of_bl {w w':World} {b:Nat} {s t x:List UInt8} {v:Value} (h:Rr w b s t x v) (hb:Bl w w'):Rr w' b s t x v:=⟨h.rk.of_bl hb,h.sf⟩
theorem Rr.len {w:World} {b:Nat} {s t x:List UInt8} {v:Value} (h:Rr w b s t x v):t.length ≤ s.length:=h.sf.length_le
theorem here_r (N:Nat) (p:UInt8 → Bool) (hD:Do N #[] p Tr) (b:Nat) (s t x:List UInt8) (v:Value) (w:World) (hR:Rr w b s t x v) (hs:s.length ≤ 1099511627776) :
 Calls Tryz.prog 160 #[.pointer (some ⟨b,0,none⟩),.func (.func N) #[] #[]] w fun e w' => e = .returned (.bool (hd p t))∧Qt w w':=by
 have:=here_c N #[] p Tr hD b _ s x v w trivial hR.rk hs;rwa [sfx_drop hR.sf] at this
theorem pass_r0 (N:Nat) (cap:Array Value) (p:UInt8 → Bool) (I:World → Prop) (hD:Do N cap p I) (b:Nat) (s t x:List UInt8) (v:Value) (w:World) (hI:I w) (hI2:∀ W u,I W → I (W.setCell ⟨b,1,none⟩ u)) (hR:Rr w b s t x v) (hs:s.length ≤ 1099511627776) :
 Calls Tryz.prog 145 #[.pointer (some ⟨b,0,none⟩),.func (.func N) #[] cap] w fun e w' => e = .returned (.string ⟨(t.takeWhile p).toArray⟩) ∧
  Rr w' b s (t.dropWhile p) x v∧w.grownBy w' (some b):=by
 refine (pass_c N cap p I hD b _ s x v w hI hI2 hR.rk (Nat.sub_le _ _) hs).mono ?_;rintro e w' ⟨rfl,h1,h2,-⟩;rw [sfx_drop hR.sf] at h1 ⊢;have hl:=hR.len;have e:s.length - t.length + (t.takeWhile p).length = s.length - (t.dropWhile p).length:=by
  have:=congrArg List.length (List.takeWhile_append_dropWhile (p:=p) (l:=t));rw [List.length_append] at this;omega
 rw [e] at h1;exact ⟨rfl,⟨h1,(List.dropWhile_suffix p).trans hR.sf⟩,h2⟩
theorem pass_r (N:Nat) (p:UInt8 → Bool) (hD:Do N #[] p Tr) (b:Nat) (s t x:List UInt8) (v:Value) (w:World) (hR:Rr w b s t x v) (hs:s.length ≤ 1099511627776) :
 Calls Tryz.prog 145 #[.pointer (some ⟨b,0,none⟩),.func (.func N) #[] #[]] w fun e w' => e = .returned (.string ⟨(t.takeWhile p).toArray⟩) ∧
  Rr w' b s (t.dropWhile p) x v∧w.grownBy w' (some b):=pass_r0 N #[] p Tr hD b s t x v w trivial (Tr2 b) hR hs
theorem need_end (b:Nat) (s x:List UInt8) (v:Value) (w:World) (hR:Rr w b s [] x v) :
 Calls Tryz.prog 177 #[.pointer (some ⟨b,0,none⟩)] w fun e w' => e = .panicked OPN∧Qt w w':=need_no b s x v w (by simpa using hR.rk)
theorem need_r (b:Nat) (s:List UInt8) (c:UInt8) (t x:List UInt8) (v:Value) (w:World) (hR:Rr w b s (c :: t) x v) (hs:s.length ≤ 1099511627776) :
 Calls Tryz.prog 177 #[.pointer (some ⟨b,0,none⟩)] w fun e w' => e = .returned (.int .u8 (c.toNat:Int))∧Rr w' b s t x v∧w.grownBy w' (some b):=by
 have hl:=hR.len;simp only [List.length_cons] at hl;have hd:=sfx_drop hR.sf;rw [List.length_cons] at hd;have hk:s.length - (t.length + 1) < s.length:=by omega
 have hc:s[s.length - (t.length + 1)] = c:=by
  have:=List.drop_eq_getElem_cons hk;rw [hd] at this;exact (List.cons.inj this).1.symm
 refine (need_yes b _ s x v w hR.rk hk hs).mono ?_;rintro e w' ⟨rfl,h1,h2⟩;refine ⟨by simp only [List.length_cons,hc],⟨?_,(List.suffix_cons c t).trans hR.sf⟩,h2⟩;rw [show s.length - t.length = s.length - (c :: t).length + 1 by simp only [List.length_cons];omega];exact h1
theorem begins_r (p:List UInt8) (b:Nat) (s t x:List UInt8) (v:Value) (w:World) (hR:Rr w b s t x v) (_hs:s.length ≤ 1099511627776) :
 Calls Tryz.prog 144 #[.pointer (some ⟨b,0,none⟩),.string ⟨p.toArray⟩] w fun e w' => e = .returned (.bool (pre p t))∧Qt w w':=by
 obtain ⟨c0,c1,c2,c3,f0,f1,f2,f3⟩:=hR.rk.cells;have hd:=sfx_drop hR.sf;have hk:s.length - t.length ≤ s.length:=Nat.sub_le _ _;obtain ⟨k,hk'⟩:∃ k,k = s.length - t.length:=⟨_,rfl⟩;rw [← hk'] at c1 hd hk;have HD:=Lib.hid hd;clear hR hk' hd;go_enter Tryz.func144,Tryz.ntmps144;go_wp2_with (go_quiet (first | (go_at_call 159;exact quiet_eq (hasPrefix_c (s.drop k) p _))));go_ret;exact ⟨by rw [← HD.out];rfl,(Qt.refl _).drewN _⟩
theorem letterAt_r (m:Nat) (hm:m ≤ 2) (b:Nat) (s t x:List UInt8) (v:Value) (w:World) (hR:Rr w b s t x v) (hs:s.length ≤ 1099511627776) :
 Calls Tryz.prog 147 #[.pointer (some ⟨b,0,none⟩),.int .i64 (m:Int)] w fun e w' => e = .returned (.bool (hd ltr (t.drop m)))∧Qt w w':=by
 obtain ⟨c0,c1,c2,c3,f0,f1,f2,f3⟩:=hR.rk.cells;have hd:=sfx_drop hR.sf;have hk:s.length - t.length ≤ s.length:=Nat.sub_le _ _;obtain ⟨k,hk'⟩:∃ k,k = s.length - t.length:=⟨_,rfl⟩;rw [← hk'] at c1 hd hk;rw [← hd,List.drop_drop];clear hR hk' hd;by_cases hlt:k + m < s.length
 · have hlt':(k:Int) + (m:Int) < (s.length:Int):=by omega
   have H1:=Lib.hid (hd_drop ltr s (k + m) hlt);have hn:((k:Int) + (m:Int)).toNat = k + m:=by omega
   have h0:(0:Int) ≤ (k:Int) + (m:Int):=by omega
   go_enter Tryz.func147,Tryz.ntmps147;go_wp2_with (go_quiet (first | (go_at_call 161;exact quiet_eq (letter_c s[k + m] _))));go_ret;exact ⟨by rw [H1.out];rfl,(Qt.refl _).drewN _⟩
 · have hlt':decide ((k:Int) + (m:Int) < (s.length:Int)) = false:=by simp;omega
   have H1:=Lib.hid (hd_end ltr s (k + m) (by omega));go_enter Tryz.func147,Tryz.ntmps147;go_wp2_with (go_quiet (fail));go_ret;exact ⟨by rw [H1.out];rfl,(Qt.refl _).drewN _⟩
def ML (w:World):Prop:=∃ m,0 < w.heap.size∧w.cell? ⟨0,0,none⟩ = some (.int .i64 m)
theorem ML.of_bl {w w':World} (h:ML w) (hb:Bl w w'):ML w':=by
 obtain ⟨m,h1,h2⟩:=h;exact ⟨m,Nat.lt_of_lt_of_le h1 (Below.size hb),(hb.cells.1 _ 0 h1).trans h2⟩
theorem ML.of_gb {w w':World} {b:Nat} (h:ML w) (hg:w.grownBy w' (some b)) (hb:0 < b):ML w':=by
 obtain ⟨m,h1,h2⟩:=h;exact ⟨m,Nat.lt_of_lt_of_le h1 hg.size,hg.cell h2 (by simp;omega)⟩
theorem find_c (l p:List UInt8) (hl:l.length ≤ 4294967280) (w:World) (hM:ML w) :
 Calls Tryz.prog 167 #[.string ⟨l.toArray⟩,.string ⟨p.toArray⟩] w fun e w' => e = .returned (.int .i64 (Lib.index l p))∧w = w':=by
 obtain ⟨m,h1,h2⟩:=hM;exact (Tryz.strings_Index ⟨l.toArray⟩ ⟨p.toArray⟩ m w (by simp [ByteArray.size];omega) h2).mono fun _ _ ⟨he,hw⟩ => ⟨he,hw.symm⟩
theorem cutS_index (p:List UInt8) (hp:p ≠ []):∀ l:List UInt8,(Lib.index l p = -1∧cutS p l = none) ∨ (∃ i:Nat,Lib.index l p = i∧i + p.length ≤ l.length∧cutS p l = some (l.drop (i + p.length))):=by
 intro l;induction l with
 | nil =>
   left;cases p with
   | nil => exact absurd rfl hp
   | cons a p => exact ⟨rfl,rfl⟩
 | cons c l ih =>
   by_cases h:pre p (c :: l) = true
   · right;refine ⟨0,?_,by have:=pre_len h;omega,?_⟩
     · unfold Lib.index;rw [show p.isPrefixOf (c :: l) = true from h];rfl
     · unfold cutS;rw [if_pos h];simp
   · have h':p.isPrefixOf (c :: l) = false:=Bool.eq_false_iff.2 h;rcases ih with ⟨h1,h2⟩ | ⟨i,h1,h2,h3⟩
     · left;refine ⟨?_,?_⟩
       · unfold Lib.index;rw [h', h1];rfl
       · unfold cutS;rw [if_neg h,h2]
     · right;refine ⟨i + 1,?_,by simp only [List.length_cons];omega,?_⟩
       · unfold Lib.index;rw [h', h1];have:((i:Int) == -1) = false:=by rw [beq_eq_false_iff_ne];omega
         simp [this]
       · unfold cutS;rw [if_neg h,h3,Nat.add_right_comm];rfl
theorem to_no (p:List UInt8) (hp:p ≠ []) (_hp2:p.length ≤ 3) (m:Nat) (hm:m ≤ 2) (b:Nat) (s t x:List UInt8) (v:Value) (w:World) (hR:Rr w b s t x v) (hs:s.length ≤ 4294967280) (hM:ML w) (hc:cutS p (t.drop m) = none) :
 Calls Tryz.prog 149 #[.pointer (some ⟨b,0,none⟩),.string ⟨p.toArray⟩,.int .i64 (m:Int)] w fun e w' => e = .panicked OPN∧Qt w w':=by
 obtain ⟨c0,c1,c2,c3,f0,f1,f2,f3⟩:=hR.rk.cells;have hd:=sfx_drop hR.sf;have hk:s.length - t.length ≤ s.length:=Nat.sub_le _ _;obtain ⟨k,hk'⟩:∃ k,k = s.length - t.length:=⟨_,rfl⟩;rw [← hk'] at c1 hd hk;rw [← hd,List.drop_drop] at hc;have hi:Lib.index (s.drop (k + m)) p = -1:=by
  rcases cutS_index p hp (s.drop (k + m)) with ⟨h1,_⟩ | ⟨i,_,_,h3⟩
  · exact h1
  · rw [hc] at h3;cases h3
 have hmin:min (s.length:Int) ((k:Int) + (m:Int)) = ((min s.length (k + m):Nat):Int):=by omega
 have hmd:s.drop (min s.length (k + m)) = s.drop (k + m):=by
  rcases Nat.le_total s.length (k + m) with h | h
  · rw [Nat.min_eq_left h,List.drop_eq_nil_of_le (Nat.le_refl _),List.drop_eq_nil_of_le h]
  · rw [Nat.min_eq_right h]
 have hml:min s.length (k + m) ≤ s.length:=Nat.min_le_left _ _;obtain ⟨j,hj⟩:∃ j,j = min s.length (k + m):=⟨_,rfl⟩;rw [← hj] at hmin hmd hml;have FC:=Lib.hid (fun n:Nat => find_c (s.drop j) p (by simp;omega) (w.drewN n) (hM.of_bl ((Bl.refl _).drewN n)));rw [hmd,hi] at FC;rw [← hmd] at FC;clear hR hk' hd hc hi hmd hj;go_enter Tryz.func149,Tryz.ntmps149;go_wp2_with (go_quiet (first | (go_at_call 167;exact quiet_eq (FC.out _))));exact ⟨rfl,rfl,(Qt.refl _).drewN _⟩
theorem to_yes (p:List UInt8) (hp:p ≠ []) (hp2:p.length ≤ 3) (m:Nat) (hm:m ≤ 2) (b:Nat) (s t x u:List UInt8) (v:Value) (w:World) (hR:Rr w b s t x v) (hs:s.length ≤ 4294967280) (hM:ML w) (hc:cutS p (t.drop m) = some u) :
 Calls Tryz.prog 149 #[.pointer (some ⟨b,0,none⟩),.string ⟨p.toArray⟩,.int .i64 (m:Int)] w fun e w' => e = .returned (.tuple #[])∧Rr w' b s u x v∧w.grownBy w' (some b):=by
 obtain ⟨c0,c1,c2,c3,f0,f1,f2,f3⟩:=hR.rk.cells;have hd:=sfx_drop hR.sf;have hk:s.length - t.length ≤ s.length:=Nat.sub_le _ _;have hRk:=hR.rk;obtain ⟨k,hk'⟩:∃ k,k = s.length - t.length:=⟨_,rfl⟩;rw [← hk'] at c1 hd hk hRk;rw [← hd,List.drop_drop] at hc;obtain ⟨i,hi,hil,hu⟩:∃ i:Nat,Lib.index (s.drop (k + m)) p = i∧i + p.length ≤ (s.drop (k + m)).length∧u = s.drop (k + m + (i + p.length)):=by
  rcases cutS_index p hp (s.drop (k + m)) with ⟨_,h1⟩ | ⟨i,h1,h2,h3⟩
  · rw [hc] at h1;cases h1
  · rw [hc,List.drop_drop] at h3;exact ⟨i,h1,h2,Option.some.inj h3⟩
 rw [List.length_drop] at hil;have hp0:0 < p.length:=List.length_pos_iff.2 hp;have hkm:k + m ≤ s.length:=by omega
 have hmin:min (s.length:Int) ((k:Int) + (m:Int)) = ((k + m:Nat):Int):=by omega
 have FC:=Lib.hid (fun n:Nat => find_c (s.drop (k + m)) p (by simp;omega) (w.drewN n) (hM.of_bl ((Bl.refl _).drewN n)));rw [hi] at FC;have hul:k + m + (i + p.length) = s.length - u.length:=by rw [hu,List.length_drop];omega
 have HU:=Lib.hid hul;have HS:=Lib.hid (show u <:+ s by rw [hu];exact List.drop_suffix _ _);have i0:¬ (i:Int) < 0:=by omega
 have hib:k + m + i + p.length ≤ s.length:=by omega
 clear hR hk' hd hc hi hu hul;go_enter Tryz.func149,Tryz.ntmps149;go_wp2_with (go_quiet (first | (go_at_call 167;exact quiet_eq (FC.out _))));go_end0;exact ⟨rfl,⟨(hRk.of_bl ((Bl.refl _).drewN _)).seti (by rw [← HU.out];omega),HS.out⟩,gb_set (gb_drewN (gb_refl _ _) _) _ _⟩
theorem fld_nat (c:UInt8):(fld c).toNat = if 65 ≤ c.toNat∧c.toNat ≤ 90 then c.toNat + 32 else c.toNat:=by
 unfold fld;split
 · rename_i h;rw [UInt8.toNat_add];simp only [show (32:UInt8).toNat = 32 from rfl];omega
 · rfl
theorem fold_len (l:List UInt8):(fold l).length = l.length:=by simp [fold]
theorem conv_cap (W:World) (g cap:Nat) (l:List UInt8) (h:BA W g l):(convert 89 9 (.slice (some ⟨g,0,none⟩) l.length cap)).run Tryz.prog W = .ok (.string ⟨l.toArray⟩) W:=by
 have h1:=run_convert_bytes_arg (P:=Tryz.prog) W 89 5 Tryz.underlying89 Tryz.underlying5 g 0 l.length cap (l.map fun c => (c.toNat:Int)) (by simp) (fun i hi => by
  rw [Nat.zero_add,h i hi];simp [List.getD,hi]) 9 Tryz.underlying9
 have e:(l.map fun c => (c.toNat:Int)).map (fun n => UInt8.ofNat n.toNat) = l:=by
  rw [List.map_map];exact (List.map_congr_left (fun c _ => by simp)).trans (List.map_id l)
 rw [h1,strOfNums,e]
def FA (w:World) (g:Nat) (l:List UInt8) (k:Nat):Prop:=∀ i,(h:i < l.length) → w.cell? ⟨g,i,none⟩ = some (.int .u8 ((if i < k then fld l[i] else l[i]).toNat:Int))∧w.frozen? ⟨g,i,none⟩ = false
theorem FA.skip {w:World} {g k:Nat} {l:List UInt8} (h:FA w g l k) (hk:k < l.length) (hs:fld l[k] = l[k]):FA w g l (k + 1):=by
 intro i hi;refine ⟨?_,(h i hi).2⟩;rw [(h i hi).1];by_cases e:i = k
 · subst e;simp [hs]
 · have:(i < k + 1) = (i < k):=by simp;omega
   simp only [this]
theorem FA.set {w:World} {g k:Nat} {l:List UInt8} (h:FA w g l k) (hk:k < l.length) {n:Int} (hn:n = ((fld l[k]).toNat:Int)):FA (w.setCell ⟨g,k,none⟩ (.int .u8 n)) g l (k + 1):=by
 intro i hi;by_cases e:i = k
 · subst e;refine ⟨?_,by rw [World.frozen?_setCell];exact (h i hi).2⟩;rw [hn,World.cell?_setCell_same w _ _ (by rw [(h i hi).1])];simp
 · refine ⟨?_,by rw [World.frozen?_setCell];exact (h i hi).2⟩;rw [World.cell?_setCell_other w _ _ _ (by simp []),(h i hi).1];have:(i < k + 1) = (i < k):=by simp;omega
   simp only [this]
theorem FA_brow (w:World) (l:List UInt8) (cap:Nat) (t:TypeId):FA (w.alloc (brow l cap t)) w.heap.size l 0:=by
 intro i hi;refine ⟨by rw [BA_brow w l cap t i hi];simp,?_⟩;unfold brow;rw [World.frozen?_alloc_mark];simp [bytesRow];omega
theorem folded_c (l:List UInt8) (hl:l.length ≤ 1099511627776) (w:World) :
 Calls Tryz.prog 162 #[.string ⟨l.toArray⟩] w fun e w' => e = .returned (.string ⟨(fold l).toArray⟩)∧Bl w w':=by
 have hcv:=of_str;have HCV:=Lib.hid (conv_cap);go_enter Tryz.func162,Tryz.ntmps162;go_wp2;go_loopw [4,5,10] (fun _ _ i wr => ∃ k:Nat,k ≤ l.length∧i = .int .i64 k∧FA wr w.heap.size l k∧Below w.heap.size w wr) (fun _ _ i _ => l.length - (intOf i).toNat);case atStart => exact ⟨0,Nat.zero_le _,rfl,FA_brow w.drew l _ _,(Bl.refl _).drew.alloc _⟩
 case round =>
  obtain ⟨k,hk,rfl,hF,hbl⟩:=hrel;by_cases hlt:k < l.length
  · have hc:=u8_lt l[k];have hck:=(hF k hlt).1;simp only [Nat.lt_irrefl,if_false] at hck;have hfk:=(hF k hlt).2;have hfn:=fld_nat l[k];by_cases hu:65 ≤ l[k].toNat∧l[k].toNat ≤ 90
    · rw [if_pos hu] at hfn;have HU:=Lib.hid hfn;obtain ⟨u1,u2⟩:=hu;have u1':(65:Int) ≤ (l[k].toNat:Int):=by omega
      have u2':(l[k].toNat:Int) ≤ 90:=by omega
      clear hfn;go_wp2;go_roundw;case rel => exact ⟨k + 1,by omega,by go_num,hF.set hlt (by rw [HU.out];omega),Below.setCell hbl (Nat.le_refl _) _⟩
      case measure => simp [intOf];omega
    · rw [if_neg hu] at hfn;have HU:=Lib.hid (UInt8.toNat_inj.1 hfn);have hu':(decide ((65:Int) ≤ (l[k].toNat:Int)) && decide ((l[k].toNat:Int) ≤ 90)) = false:=by
       cases h:(decide ((65:Int) ≤ (l[k].toNat:Int)) && decide ((l[k].toNat:Int) ≤ 90))
       · rfl
       · simp only [Bool.and_eq_true,decide_eq_true_eq] at h;omega
      have HU2:=Lib.hid hu;clear hfn hu;go_wp2;all_goals first
       | (exfalso;have:=HU2.out;omega)
       | (go_roundw
          case rel => exact ⟨k + 1,by omega,by go_num,hF.skip hlt HU.out,hbl⟩
          case measure => simp [intOf];omega)
  · have hB:BA wr w.heap.size (fold l):=by
     intro i hi;rw [fold_len] at hi;rw [(hF i hi).1,if_pos (by omega)];simp [fold]
    have hcv2:=fun cap => conv_cap wr w.heap.size cap (fold l) hB
    rw [fold_len] at hcv2;clear hcv;go_wp2;go_ret;exact ⟨rfl,hbl⟩
def bcs (l:List UInt8):List Value:=l.map fun c => .int .u8 (c.toNat:Int)
theorem new_cells (w:World) (c:Array Value) (e:TypeId):∀ j u,c.toList[j]? = some u → (w.alloc (.cells c e)).cell? ((⟨w.heap.size,0,none⟩:Addr).add j) = some u:=by
 intro j u h;have hadd:(⟨w.heap.size,0,none⟩:Addr).add j = ⟨w.heap.size,j,none⟩:=by unfold Addr.add;split <;> simp_all
 rw [hadd];simpa using h
theorem conv_own (W:World) (base:Nat) (v:Value) (l:List UInt8) (h:W.ownsRow base 5 1 v l.length (bcs l)):(convert 89 9 v).run Tryz.prog W = .ok (.string ⟨l.toArray⟩) W:=by
 rcases h.2 with ⟨rfl,h0⟩ | ⟨g,cap,cur,rfl,-,-,-⟩
 · obtain rfl:=List.eq_nil_of_length_eq_zero h0;have:=run_convert_bytes_nil (P:=Tryz.prog) W 89 5 Tryz.underlying89 Tryz.underlying5 0 0;exact this _ Tryz.underlying9
 · refine conv_cap W g cap l (fun i hi => ?_);have:=h.cells (g:=g) rfl i (.int .u8 (l[i].toNat:Int)) (by simp [bcs,hi]);by_cases e:i = 0
   · subst e;simpa [Addr.add] using this
   · simpa [Addr.add,e] using this
theorem Tryz.infoU8:(Tryz.prog.info? 5).map (fun i => (i.zero,i.size,i.bytes)) = some (some (.int .u8 0),1,1):=by kernel_rfl
theorem foldOf_c (l:List UInt8) (hl:l.length ≤ 1099511627776) (w:World) :
 Calls Tryz.prog 59 #[.string ⟨l.toArray⟩] w fun e w' => e = .returned (.string ⟨(fold l).toArray⟩)∧Bl w w':=by
 obtain ⟨i0,hi,hz0,hz1,hz2⟩:=info_parts Tryz.infoU8;go_enter Tryz.func59,Tryz.ntmps59;go_wp2;go_loopw [3,4,5] (fun v i _ wr => ∃ k:Nat,k ≤ l.length∧i = .int .i64 k∧wr.ownsRow w.heap.size 5 1 v (fold (l.take k)).length (bcs (fold (l.take k)))∧Below w.heap.size w wr) (fun _ i _ _ => l.length - (intOf i).toNat);case atStart => exact ⟨0,Nat.zero_le _,rfl,World.ownsRow_nil _ _ _ _,Bl.refl _⟩
 case round =>
  obtain ⟨k,hk,rfl,hown,hbl⟩:=hrel;have hsz:=Below.size hbl;by_cases hlt:k < l.length
  · have hc:=u8_lt l[k];have hfn:=fld_nat l[k];have hkl:(fold (l.take k)).length = k:=by simp [fold];omega
    have HT:=Lib.hid (show bcs (fold (l.take (k + 1))) = bcs (fold (l.take k)) ++ [.int .u8 ((fld l[k]).toNat:Int)] by rw [take_snoc l k hlt];unfold bcs fold;rw [List.map_append,List.map_append];rfl);have HL:=Lib.hid (show (fold (l.take (k + 1))).length = k + 1 by simp [fold];omega);rw [hkl] at hown;clear hkl;by_cases hu:65 ≤ l[k].toNat∧l[k].toNat ≤ 90
    · rw [if_pos hu] at hfn;have HU:=Lib.hid hfn;obtain ⟨u1,u2⟩:=hu;have u1':(65:Int) ≤ (l[k].toNat:Int):=by omega
      have u2':(l[k].toNat:Int) ≤ 90:=by omega
      clear hfn;go_wp2_with (first | (go_at_call 39;refine (between_c _ _ _ _).mono ?_;rintro e w' ⟨rfl,rfl⟩) | (at_builtin;refine wpList_append_own _ rfl _ _ 89 rfl w.heap.size 5 i0 (.int .u8 0) 1 1 Tryz.underlying89 hi hz0 hz1 hz2 rfl (by decide) _ _ _ rfl (hown.alloc _) ⟨wr.heap.size,0,none⟩ 1 1 [.int .u8 ((l[k].toNat:Int) + 32)] rfl rfl (new_cells wr #[.int .u8 ((l[k].toNat:Int) + 32)] _) (by simp [Value.oneCell']) (by unfold maxLen;omega) (by omega) (by simp;omega) ?_))
      · intro v' w1 hown' hgrow _;have hB':=(hbl.alloc hsz _).grown hgrow (by simp;omega) (fun g hg => (hown.lt g hg).1);have hO:w1.ownsRow w.heap.size 5 1 v' (fold (l.take (k + 1))).length (bcs (fold (l.take (k + 1)))):=by
         rw [HL.out,HT.out,HU.out];simpa using hown'
        clear hown' hgrow hown;go_wp2;go_roundw;case rel => exact ⟨k + 1,by omega,by go_num,hO,hB'⟩
        case measure => simp [intOf];omega
    · rw [if_neg hu] at hfn;have HU:=Lib.hid (UInt8.toNat_inj.1 hfn);have hu':(decide ((65:Int) ≤ (l[k].toNat:Int)) && decide ((l[k].toNat:Int) ≤ 90)) = false:=by
       cases h:(decide ((65:Int) ≤ (l[k].toNat:Int)) && decide ((l[k].toNat:Int) ≤ 90))
       · rfl
       · simp only [Bool.and_eq_true,decide_eq_true_eq] at h;omega
      have HU2:=Lib.hid hu;clear hfn hu;go_wp2_with (first | (go_at_call 39;refine (between_c _ _ _ _).mono ?_;rintro e w' ⟨rfl,rfl⟩) | (at_builtin;refine wpList_append_own _ rfl _ _ 89 rfl w.heap.size 5 i0 (.int .u8 0) 1 1 Tryz.underlying89 hi hz0 hz1 hz2 rfl (by decide) _ _ _ rfl (hown.alloc _) ⟨wr.heap.size,0,none⟩ 1 1 [.int .u8 (l[k].toNat:Int)] rfl rfl (new_cells wr #[.int .u8 (l[k].toNat:Int)] _) (by simp [Value.oneCell']) (by unfold maxLen;omega) (by omega) (by simp;omega) ?_));all_goals first
       | (exfalso;have:=HU2.out;omega)
       | skip
      · intro v' w1 hown' hgrow _;have hB':=(hbl.alloc hsz _).grown hgrow (by simp;omega) (fun g hg => (hown.lt g hg).1);have hO:w1.ownsRow w.heap.size 5 1 v' (fold (l.take (k + 1))).length (bcs (fold (l.take (k + 1)))):=by
         rw [HL.out,HT.out,HU.out];exact hown'
        clear hown' hgrow hown;go_wp2;go_roundw;case rel => exact ⟨k + 1,by omega,by go_num,hO,hB'⟩
        case measure => simp [intOf];omega
  · have HE:=Lib.hid (show l.take k = l from List.take_of_length_le (by omega));rw [HE.out] at hown;have hcv:=fun v h => conv_own wr w.heap.size v (fold l) h
    have hcv2:=hcv _ hown;clear hcv;go_wp2;go_ret;exact ⟨rfl,hbl⟩
theorem lowerU_c (c:UInt8) (w:World):Calls Tryz.prog 67 #[.int .u8 (c.toNat:Int)] w fun e w' => e = .returned (.int .u8 ((fld c).toNat:Int))∧w = w':=by
 have hc:=u8_lt c;have hf:=fld_nat c;by_cases hu:65 ≤ c.toNat∧c.toNat ≤ 90
 · rw [if_pos hu] at hf;have HF:=Lib.hid hf;obtain ⟨u1,u2⟩:=hu;have u1':(65:Int) ≤ (c.toNat:Int):=by omega
   have u2':(c.toNat:Int) ≤ 90:=by omega
   clear hf;go_enter Tryz.func67,Tryz.ntmps67;go_wp2;go_ret;exact ⟨ret_int (by rw [HF.out];omega),rfl⟩
 · rw [if_neg hu] at hf;have HF:=Lib.hid hf;clear hf;by_cases h1:65 ≤ c.toNat
   · have u1':(65:Int) ≤ (c.toNat:Int):=by omega
     have u2':¬ (c.toNat:Int) ≤ 90:=by omega
     clear hu;go_enter Tryz.func67,Tryz.ntmps67;go_wp2;go_ret;exact ⟨ret_int (by rw [HF.out]),rfl⟩
   · have u1':¬ (65:Int) ≤ (c.toNat:Int):=by omega
     clear hu;go_enter Tryz.func67,Tryz.ntmps67;go_wp2;go_ret;exact ⟨ret_int (by rw [HF.out]),rfl⟩
def cL:List UInt8:=[58,47,63,35]
theorem cL_stop (c:UInt8):cL.contains c = stopU c:=by
 rw [Bool.eq_iff_iff];unfold cL stopU;simp only [List.contains_cons,List.contains_nil,Bool.or_false,Bool.or_eq_true,beq_iff_eq,decide_eq_true_eq];have h:∀ n:UInt8,c = n ↔ c.toNat = n.toNat:=fun n => UInt8.toNat_inj.symm
 rw [h 58,h 47,h 63,h 35];simp only [show (58:UInt8).toNat = 58 from rfl,show (47:UInt8).toNat = 47 from rfl,show (63:UInt8).toNat = 63 from rfl,show (35:UInt8).toNat = 35 from rfl];omega
def ixU (s:List UInt8):Int:=Lib.indexAny s cL
theorem ixU_eq (s:List UInt8):ixU s = match s.findIdx? stopU with | some i => (i:Int) | none => -1:=by
 unfold ixU;induction s with
 | nil => rfl
 | cons c s ih =>
   rw [Lib.indexAny,cL_stop,List.findIdx?_cons];cases h:stopU c with
   | true => rfl
   | false =>
     simp only [Bool.false_eq_true,if_false];rw [ih];cases s.findIdx? stopU with
     | none => rfl
     | some i =>
       simp only [Option.map_some];rw [if_neg (by intro e;have:=beq_iff_eq.1 e;omega)]
       push_cast
       rfl
theorem dec_hi (s:ByteArray) (p:Nat) (h:128 ≤ (s.get! p).toNat):128 ≤ (Utf8.decode s p).1∧∀ j,p ≤ j → j < p + (Utf8.decode s p).2 → 128 ≤ (s.get! j).toNat:=by
 have one:∀ j,p ≤ j → j < p + 1 → 128 ≤ (s.get! j).toNat:=fun j h1 h2 => by rw [show j = p by omega];exact h
 have ct:∀ k,(decide (p + k < s.size) && (s.get! (p + k)).toNat / 64 == 2) = true → 128 ≤ (s.get! (p + k)).toNat:=fun k hk => by
  have:=beq_iff_eq.1 (Bool.and_eq_true _ _ ▸ hk).2;omega
 unfold Utf8.decode;simp only [Nat.add_zero,Utf8.runeError];rw [if_neg (by omega)];split
 · rename_i h1;have k1:=ct 1 (Bool.and_eq_true _ _ ▸ h1).2;split
   · rename_i h2;refine ⟨by omega,fun j h3 h4 => ?_⟩;by_cases e:j = p
     · rw [e];exact h
     · rw [show j = p + 1 by omega];exact k1
   · exact ⟨by omega,one⟩
 · split
   · rename_i h1;simp only [Bool.and_eq_true] at h1;have k1:=ct 1 (by simpa using h1.1.2);have k2:=ct 2 (by simpa using h1.2);split
     · rename_i h2;simp only [Bool.and_eq_true,decide_eq_true_eq] at h2;refine ⟨by omega,fun j h3 h4 => ?_⟩;by_cases e:j = p
       · rw [e];exact h
       · by_cases e2:j = p + 1
         · rw [e2];exact k1
         · rw [show j = p + 2 by omega];exact k2
     · exact ⟨by omega,one⟩
   · split
     · rename_i h1;simp only [Bool.and_eq_true] at h1;have k1:=ct 1 (by simpa using h1.1.1.2);have k2:=ct 2 (by simpa using h1.1.2);have k3:=ct 3 (by simpa using h1.2);split
       · rename_i h2;simp only [Bool.and_eq_true,decide_eq_true_eq] at h2;refine ⟨by omega,fun j h3 h4 => ?_⟩;by_cases e:j = p
         · rw [e];exact h
         · by_cases e2:j = p + 1
           · rw [e2];exact k1
           · by_cases e3:j = p + 2
             · rw [e3];exact k2
             · rw [show j = p + 3 by omega];exact k3
       · exact ⟨by omega,one⟩
     · exact ⟨by omega,one⟩
theorem iter_bl (w:World) (s:ByteArray) (p:Nat):Bl w (w.iter s p):=(Bl.refl _).alloc _
theorem next_c (w:World) (i:Nat) (hi:i < 4) (ty:TypeId):(Instr.next (.pointer (some ⟨w.heap.size,0,none⟩)) true ty).run Tryz.prog (w.iter ⟨cL.toArray⟩ i) = .ok (.tuple #[.bool true,.int .i64 i,.int .i32 ((cL.getD i 0).toNat:Int)]) (w.iter ⟨cL.toArray⟩ (i + 1)):=by
 have h:=run_next_ascii (P:=Tryz.prog) w ⟨cL.toArray⟩ i ty (by show i < 4;exact hi) (by
  match i,hi with
  | 0,_ => exact (by decide:(58:UInt8).toNat < 128)
  | 1,_ => exact (by decide:(47:UInt8).toNat < 128)
  | 2,_ => exact (by decide:(63:UInt8).toNat < 128)
  | 3,_ => exact (by decide:(35:UInt8).toNat < 128))
 rw [h];match i,hi with
 | 0,_ => rfl
 | 1,_ => rfl
 | 2,_ => rfl
 | 3,_ => rfl
theorem ib_none (t:List UInt8) (y:UInt8) (h:∀ b ∈ t,b ≠ y):Lib.indexByte t y = -1:=by
 induction t with
 | nil => rfl
 | cons b t ih =>
   have h1:(b == y) = false:=by simpa using h b (by simp)
   rw [Lib.indexByte,h1,ih (fun c hc => h c (List.mem_cons_of_mem _ hc))];simp
theorem ib_c (t:ByteArray) (y:UInt8) (hy:128 ≤ y.toNat) (ht:∀ b ∈ t.data.toList,b.toNat < 128) (W:World) :
 Calls Tryz.prog 137 #[.string t,.int .u8 (y.toNat:Int)] W fun e w' => e = .returned (.int .i64 (-1))∧W = w':=by
 refine (Tryz.strings_IndexByte t (y.toNat:Int) W).mono ?_;rintro e w' ⟨rfl,rfl⟩;refine ⟨ret_int ?_,rfl⟩;have e1:((y.toNat:Int)).toNat.toUInt8 = y:=by simp
 rw [e1];exact ib_none _ _ (fun b hb e => by have:=ht b hb;rw [e] at this;omega)
theorem enc_shape (r:Int) (hv:Utf8.valid r = true) (h:128 ≤ r):(∃ a y:UInt8,Utf8.encode r = ⟨#[a,y]⟩∧128 ≤ y.toNat) ∨ (∃ a b y:UInt8,Utf8.encode r = ⟨#[a,b,y]⟩∧128 ≤ y.toNat) ∨ ∃ a b c y:UInt8,Utf8.encode r = ⟨#[a,b,c,y]⟩∧128 ≤ y.toNat:=by
 have hc:¬ r.toNat < 128:=by omega
 unfold Utf8.encode;simp only [hv,if_true,hc,if_false];split
 · exact .inl ⟨_,_,rfl,by simp;omega⟩
 · split
   · exact .inr (.inl ⟨_,_,_,rfl,by simp;omega⟩)
   · exact .inr (.inr ⟨_,_,_,_,rfl,by simp;omega⟩)
theorem idxR_e2 (r:Int) (a y:UInt8) (hB:Utf8.encode r = ⟨#[a,y]⟩) (hy:128 ≤ y.toNat) (q1:0 ≤ r) (q2:¬ r < 128) (q3:¬ r = 65533) (hv:Lib.validRune r = true) (w:World) :
 Calls Tryz.prog 117 #[.string ⟨#[58,47,63,35]⟩,.int .i32 r] w fun e w' => e = .returned (.int .i64 (-1))∧Bl w w':=by
 have VC:=Lib.hid (fun W => Tryz.utf8_ValidRune r W);rw [hv] at VC;have hc:=u8_lt y;have hne:¬ ((47:Int) = (y.toNat:Int)):=by omega
 clear hv;go_enter Tryz.func117,Tryz.ntmps117;go_wp2_with (go_at_call 138; (with_reducible refine (VC.out _).mono ?_);rintro e w' ⟨rfl,rfl⟩);go_step3;go_wp2;refine wp_loop_rounds 1 ?_;rw [rounds_succ];go_wp2;go_step3;go_wp2_with (first | (go_quiet (fail)) | (go_quiet ((go_at_call 137;first | exact quiet_eq (ib_c _ _ hy (by decide) _) | exact quiet_eq2 (ib_c _ _ hy (by decide) _)))));rw [Exit.noGoto_ret];go_wp2;rw [Exit.noGoto_ret];go_ret;exact ⟨rfl,(Qt.refl _).bl.drewN _⟩
theorem idxR_e3 (r:Int) (a b y:UInt8) (hB:Utf8.encode r = ⟨#[a,b,y]⟩) (hy:128 ≤ y.toNat) (q1:0 ≤ r) (q2:¬ r < 128) (q3:¬ r = 65533) (hv:Lib.validRune r = true) (w:World) :
 Calls Tryz.prog 117 #[.string ⟨#[58,47,63,35]⟩,.int .i32 r] w fun e w' => e = .returned (.int .i64 (-1))∧Bl w w':=by
 have VC:=Lib.hid (fun W => Tryz.utf8_ValidRune r W);rw [hv] at VC;have hc:=u8_lt y;have hne:¬ ((63:Int) = (y.toNat:Int)):=by omega
 clear hv;go_enter Tryz.func117,Tryz.ntmps117;go_wp2_with (go_at_call 138; (with_reducible refine (VC.out _).mono ?_);rintro e w' ⟨rfl,rfl⟩);go_step3;go_wp2;refine wp_loop_rounds 1 ?_;rw [rounds_succ];go_wp2;go_step3;go_wp2_with (first | (go_quiet (fail)) | (go_quiet ((go_at_call 137;first | exact quiet_eq (ib_c _ _ hy (by decide) _) | exact quiet_eq2 (ib_c _ _ hy (by decide) _)))));rw [Exit.noGoto_ret];go_wp2;rw [Exit.noGoto_ret];go_ret;exact ⟨rfl,(Qt.refl _).bl.drewN _⟩
theorem idxR_e4 (r:Int) (a b c y:UInt8) (hB:Utf8.encode r = ⟨#[a,b,c,y]⟩) (hy:128 ≤ y.toNat) (q1:0 ≤ r) (q2:¬ r < 128) (q3:¬ r = 65533) (hv:Lib.validRune r = true) (w:World) :
 Calls Tryz.prog 117 #[.string ⟨#[58,47,63,35]⟩,.int .i32 r] w fun e w' => e = .returned (.int .i64 (-1))∧Bl w w':=by
 have VC:=Lib.hid (fun W => Tryz.utf8_ValidRune r W);rw [hv] at VC;have hc:=u8_lt y;have hne:¬ ((35:Int) = (y.toNat:Int)):=by omega
 clear hv;go_enter Tryz.func117,Tryz.ntmps117;go_wp2_with (go_at_call 138; (with_reducible refine (VC.out _).mono ?_);rintro e w' ⟨rfl,rfl⟩);go_step3;go_wp2;refine wp_loop_rounds 1 ?_;rw [rounds_succ];go_wp2;go_step3;go_wp2_with (first | (go_quiet (fail)) | (go_quiet ((go_at_call 137;first | exact quiet_eq (ib_c _ _ hy (by decide) _) | exact quiet_eq2 (ib_c _ _ hy (by decide) _)))));rw [Exit.noGoto_ret];go_wp2;rw [Exit.noGoto_ret];go_ret;exact ⟨rfl,(Qt.refl _).bl.drewN _⟩
theorem idxR_inv (r:Int) (q1:0 ≤ r) (q2:¬ r < 128) (q3:¬ r = 65533) (hv:Lib.validRune r = false) (w:World) :
 Calls Tryz.prog 117 #[.string ⟨#[58,47,63,35]⟩,.int .i32 r] w fun e w' => e = .returned (.int .i64 (-1))∧Bl w w':=by
 have VC:=Lib.hid (fun W => Tryz.utf8_ValidRune r W);rw [hv] at VC;clear hv;go_enter Tryz.func117,Tryz.ntmps117;go_wp2_with (go_at_call 138; (with_reducible refine (VC.out _).mono ?_);rintro e w' ⟨rfl,rfl⟩);go_ret;exact ⟨rfl,Bl.refl _⟩
theorem idxR_hi (r:Nat) (h:128 ≤ r) (w:World) :
 Calls Tryz.prog 117 #[.string ⟨#[58,47,63,35]⟩,.int .i32 (r:Int)] w fun e w' => e = .returned (.int .i64 (-1))∧Bl w w':=by
 have q1:(0:Int) ≤ (r:Int):=by omega
 have q2:¬ (r:Int) < 128:=by omega
 by_cases he:r = 65533
 · subst he;have hnx:=next_c w;have hne:=fun ty => run_next_end (P:=Tryz.prog) w ⟨cL.toArray⟩ 4 ty (by show ¬ 4 < 4;omega)
   have HN:=Lib.hid hnx;have HE:=Lib.hid hne;clear hnx hne;go_enter Tryz.func117,Tryz.ntmps117;go_wp2
   go_loopg [5,6] 4 (fun g _ _ wx => ∃ i:Nat,i + g = 4∧wx = w.iter ⟨#[58,47,63,35]⟩ i)
   case atStart => exact ⟨0,rfl,rfl⟩
   case round =>
    obtain ⟨i,hig,rfl⟩:=hrel;cases gk with
    | zero =>
      obtain rfl:i = 4:=by omega
      have hnx:=HE.out;unfold cL at hnx;go_wp2;go_ret;exact ⟨rfl,iter_bl _ _ _⟩
    | succ g =>
      have hi:i < 4:=by omega
      have hnx:=HN.out i hi;have h2:(((cL.getD i 0).toNat:Int) == 65533) = false:=by
       match i,hi with
       | 0,_ => decide
       | 1,_ => decide
       | 2,_ => decide
       | 3,_ => decide
      obtain ⟨x,hx⟩:∃ x:Int,x = ((cL.getD i 0).toNat:Int):=⟨_,rfl⟩;rw [← hx] at hnx h2;have h3:x ≠ 65533:=by simpa using h2
      unfold cL at hnx;clear hx;go_wp2
      go_roundg g
      case measure => omega
      case rel => exact ⟨i + 1,by omega,rfl⟩
 · have q3:¬ (r:Int) = 65533:=by omega
   cases hv:Lib.validRune (r:Int) with
   | false => exact idxR_inv _ q1 q2 q3 hv w
   | true =>
     have hval:Utf8.valid (r:Int) = true:=by
      have:Utf8.valid (r:Int) = Lib.validRune (r:Int):=by
       unfold Lib.validRune at hv ⊢;rw [hv];unfold Utf8.valid;simp only [decide_eq_true_eq] at hv;simp only [Bool.or_eq_true,Bool.and_eq_true,decide_eq_true_eq];omega
      rw [this,hv]
     rcases enc_shape (r:Int) hval (by omega) with ⟨a,y,hB,hy⟩ | ⟨a,b,y,hB,hy⟩ | ⟨a,b,c,y,hB,hy⟩
     · exact idxR_e2 _ a y hB hy q1 q2 q3 hv w
     · exact idxR_e3 _ a b y hB hy q1 q2 q3 hv w
     · exact idxR_e4 _ a b c y hB hy q1 q2 q3 hv w
theorem get_at (s:List UInt8) (i:Nat) (h:i < s.length):(⟨s.toArray⟩:ByteArray).get! i = s[i]:=by
 show s.toArray[i]! = s[i];rw [getElem!_pos s.toArray i (by simpa using h)];simp
theorem idxA_short (s:List UInt8) (h8:s.length ≤ 8) (w:World) :
 Calls Tryz.prog 87 #[.string ⟨s.toArray⟩,.string ⟨#[58,47,63,35]⟩] w fun e w' => e = .returned (.int .i64 (ixU s))∧Bl w w':=by
 have h8z:decide ((8:Int) < (s.length:Int)) = false:=decide_eq_false (by omega);have SC:=Lib.hid (fun W => (Tryz.strings_shouldUseASCIISet (s.length:Int) W).mono fun e w' ⟨h1,h2⟩ => (⟨by rw [h1,h8z],h2.symm⟩:e = Ending.returned (.bool false)∧W = w'));have RH:=Lib.hid (fun r (h:128 ≤ r) W => idxR_hi r h W);clear h8z;go_enter Tryz.func87,Tryz.ntmps87;go_wp2_with (go_at_call 118; (with_reducible refine (SC.out _).mono ?_);rintro e w' ⟨rfl,rfl⟩)
 go_loopg [9,10] s.length (fun g _ _ wx => ∃ i:Nat,i ≤ s.length∧s.length ≤ i + g∧wx.heap[w.heap.size]? = some (.stringIter ⟨s.toArray⟩ i)∧Bl w wx∧Hid (Lib.NoAny s cL i))
 case atStart => exact ⟨0,by omega,by omega,World.iter_heap _ _ _,iter_bl _ _ _,Lib.hid (Lib.NoAny.zero _ _)⟩
 case round =>
  obtain ⟨i,hi,hig,hit,hbl,HN⟩:=hrel;have hws:w.heap.size ≤ wr.heap.size:=Below.size hbl;by_cases hlt:i < s.length
  · obtain ⟨g,rfl⟩:∃ g,gk = g + 1:=⟨gk - 1,by omega⟩;have hlt':i < (⟨s.toArray⟩:ByteArray).size:=by simpa [ByteArray.size] using hlt
    obtain ⟨x,hx⟩:∃ x:UInt8,s[i] = x:=⟨_,rfl⟩;have HX:=Lib.hid (show s[i]? = some x by rw [List.getElem?_eq_getElem hlt,hx]);by_cases ha:x.toNat < 128
    · have hnx:=fun ty => Lib.run_next_ascii_at (P:=Tryz.prog) wr w.heap.size ⟨s.toArray⟩ i ty hit hlt' (by rw [mk_get,hx];exact ha)
      replace hnx:∀ ty,_ = _:=hnx;rw [mk_get,hx] at hnx;have hit2:=Lib.iterAt_heap wr w.heap.size ⟨s.toArray⟩ i (i + 1) hit;have hbl2:Bl w (wr.iterAt w.heap.size ⟨s.toArray⟩ (i + 1)):=Lib.below_iterAt hbl (Nat.le_refl _) _ _;obtain ⟨W,hW⟩:∃ W,wr.iterAt w.heap.size ⟨s.toArray⟩ (i + 1) = W:=⟨_,rfl⟩;rw [hW] at hnx hit2 hbl2;have e1:((x.toNat:Int)).toNat.toUInt8 = x:=by simp
      have RC:=Lib.hid (fun V => (Tryz.strings_IndexRune_ascii ⟨#[58,47,63,35]⟩ (x.toNat:Int) V (by omega) (by omega)).mono fun e w' ⟨h1,h2⟩ => (⟨by rw [h1,e1];rfl,h2.symm⟩:e = Ending.returned (.int .i64 (Lib.indexByte cL x))∧V = w'));have HI:=Lib.hid (Lib.contains_iff_indexByte cL x);clear e1 hx hW hit hlt';obtain ⟨k,hk⟩:∃ k,k = Lib.indexByte cL x:=⟨_,rfl⟩;rw [← hk] at RC HI;clear hk;by_cases hc:(0:Int) ≤ k
      · have HC:=Lib.hid (show cL.contains x = true by rw [HI.out];exact decide_eq_true hc);go_wp2_with (go_at_call 117; (with_reducible refine (RC.out _).mono ?_);rintro e w' ⟨rfl,rfl⟩);go_ret;exact ⟨ret_int (Lib.indexAny_hit HN.out HX.out HC.out).symm,hbl2⟩
      · have HC:=Lib.hid (show cL.contains x = false by rw [HI.out];exact decide_eq_false hc);go_wp2_with (go_at_call 117; (with_reducible refine (RC.out _).mono ?_);rintro e w' ⟨rfl,rfl⟩)
        go_roundg g
        case measure => omega
        case rel => exact ⟨i + 1,by omega,by omega,hit2,hbl2,Lib.hid (HN.out.succ HX.out HC.out)⟩
    · obtain ⟨R,hR⟩:∃ R,(Utf8.decode ⟨s.toArray⟩ i).1 = R:=⟨_,rfl⟩;obtain ⟨K,hK⟩:∃ K,(Utf8.decode ⟨s.toArray⟩ i).2 = K:=⟨_,rfl⟩;have hd:=dec_hi ⟨s.toArray⟩ i (by rw [get_at s i hlt,hx];omega);have hwd:=Lib.width_pos ⟨s.toArray⟩ i;have hwn:i + (Utf8.decode ⟨s.toArray⟩ i).2 ≤ (⟨s.toArray⟩:ByteArray).size:=by
       have:=Lib.decodeN_le_n' ((⟨s.toArray⟩:ByteArray).size - i) ((⟨s.toArray⟩:ByteArray).get! i).toNat ((⟨s.toArray⟩:ByteArray).get! (i + 1)).toNat ((⟨s.toArray⟩:ByteArray).get! (i + 2)).toNat ((⟨s.toArray⟩:ByteArray).get! (i + 3)).toNat (by omega);rw [← Lib.decode_at] at this;omega
      have hnx:=fun ty => Lib.run_next_any_at (P:=Tryz.prog) wr w.heap.size ⟨s.toArray⟩ i ty hit hlt'
      have hsz:(⟨s.toArray⟩:ByteArray).size = s.length:=by simp [ByteArray.size]
      rw [hR,hK] at hd;rw [hK,hsz] at hwn;rw [hK] at hwd;replace hnx:∀ ty,_ = _:=hnx;rw [hR,hK] at hnx;have hit2:=Lib.iterAt_heap wr w.heap.size ⟨s.toArray⟩ i (i + K) hit;have hbl2:Bl w (wr.iterAt w.heap.size ⟨s.toArray⟩ (i + K)):=Lib.below_iterAt hbl (Nat.le_refl _) _ _;obtain ⟨W,hW⟩:∃ W,wr.iterAt w.heap.size ⟨s.toArray⟩ (i + K) = W:=⟨_,rfl⟩;rw [hW] at hnx hit2 hbl2;have hlt2:w.heap.size < W.heap.size:=(Array.getElem?_eq_some_iff.1 hit2).1;have HN2:=Lib.hid (show Lib.NoAny s cL (i + K) from fun j b hj hb => by
       by_cases e:j < i
       · exact HN.out j b e hb
       · obtain ⟨hjl,e2⟩:=List.getElem?_eq_some_iff.1 hb;have h3:=hd.2 j (by omega) (by omega);rw [get_at s j hjl,e2] at h3;rw [cL_stop];unfold stopU;simp;omega)
      have RC:=Lib.hid (RH.out R hd.1);clear hR hK hW hit hlt' hd hx ha RH;go_wp2_with (go_at_call 117; (with_reducible refine (RC.out _).mono ?_);rintro e w' ⟨rfl,hb2⟩)
      go_roundg g
      case measure => omega
      case rel => exact ⟨i + K,by omega,by omega,(Below.block hb2 w.heap.size hlt2).trans hit2,hbl2.trans hb2,Lib.hid HN2.out⟩
  · obtain rfl:i = s.length:=by omega
    have hne:=fun ty => Lib.run_next_end_at (P:=Tryz.prog) wr w.heap.size ⟨s.toArray⟩ s.length ty hit (by simp [ByteArray.size])
    clear hit;go_wp2;go_ret;exact ⟨ret_int (by unfold ixU;rw [Lib.indexAny_none HN.out]),hbl⟩
theorem zv_set (w:World):(zeroValue 142).run Tryz.prog w = .ok (.agg (Array.replicate 256 (.bool false))) w:=by kernel_rfl
theorem idxA_c (s:List UInt8) (hs:s.length ≤ 4294967280) (w:World) :
 Calls Tryz.prog 87 #[.string ⟨s.toArray⟩,.string ⟨#[58,47,63,35]⟩] w fun e w' => e = .returned (.int .i64 (ixU s))∧Bl w w':=by
 by_cases h8:s.length ≤ 8
 · exact idxA_short s h8 w
 · refine (Tryz.strings_IndexAny_long zv_set ⟨s.toArray⟩ ⟨#[58,47,63,35]⟩ w (by decide) (by simp [ByteArray.size];omega) (by simp [ByteArray.size];omega) (by decide) (fun j b hj => ?_)).mono ?_
   · have hb:b ∈ cL:=List.mem_of_getElem? hj;unfold cL at hb;simp only [List.mem_cons,List.not_mem_nil,or_false] at hb;rcases hb with rfl | rfl | rfl | rfl <;> decide
   · rintro e w' ⟨rfl,rfl⟩;exact ⟨rfl,((Bl.refl _).alloc _).alloc _⟩
end Go.Proofs.YthnpljkekhieiaaGreatDoor

/- Shelves: put. -/
import Derived.Test.YthnpljkekhieiaaGreatDoorGrpT
import Derived.Test.YthnpljkekhieiaaGreatDoorGrpS
set_option maxRecDepth 100000
set_option maxHeartbeats 4000000
namespace Go.Proofs.YthnpljkekhieiaaGreatDoor
open Go.RowKit
theorem plI_none {es:List Ent} {id:Nm} (h:plE es id = none):plI es id = -1:=by unfold plI;rw [h]
theorem plI_some {es:List Ent} {id:Nm} {i:Nat} (h:plE es id = some i):plI es id = (i:Int):=by unfold plI;rw [h]
theorem bsGo_le (p:Nat → Bool) (n:Nat):∀ (fuel lo hi:Nat),lo ≤ n → hi ≤ n → Lib.bsGo p fuel lo hi ≤ n:=by
 intro fuel;induction fuel with
 | zero => intro lo hi h1 h2;exact h1
 | succ f ih =>
   intro lo hi h1 h2;unfold Lib.bsGo;by_cases c:lo < hi
   · rw [if_pos c];split
     · exact ih _ _ (by omega) h2
     · exact ih _ _ h1 (by omega)
   · rw [if_neg c];exact h1
theorem bsE_le (l:List Ent) (x:Ent):bsE l x ≤ l.length:=bsGo_le _ _ _ _ _ (Nat.zero_le _) (Nat.le_refl _)
theorem put_ins {w W w3:World} {base b:Nat} {es:List Ent} {rd:List Nm} {ve vr:Value} (hb:w.heap[b]? = some (.cells #[ve,vr] 57)) (hE:EnO w base ve es) (hR:StO w base vr rd) (hbw:base ≤ w.heap.size) (hg:W.grownBy w3 ve.ownBlock) (hW:Bl w W) :
 w3.heap[b]? = some (.cells #[ve,vr] 57)∧StO w3 base vr rd∧Below base w w3:=by
 have hb':=(Below.block hW b (Array.getElem?_eq_some_iff.1 hb).1).trans hb;obtain ⟨h1,h2,h3⟩:=kp_gr hb' (hE.of_bl hW) (hR.of_bl hW) hg (Nat.le_trans hbw (Below.size hW));exact ⟨h1,h2,Below.trans (Below.mono hW hbw) h3⟩
theorem put_fin {w w3:World} {base b:Nat} {L:List Ent} {rd:List Nm} {ve v3 vr:Value} (hb:w3.heap[b]? = some (.cells #[ve,vr] 57)) (hE:EnO w3 base v3 L) (hR:StO w3 base vr rd) (hbb:base ≤ b) (hB:Below base w w3) (hbw:base ≤ w.heap.size) :
 KpS (w3.setCell ⟨b,0,none⟩ v3) base b L rd∧Below base w (w3.setCell ⟨b,0,none⟩ v3):=by
 obtain ⟨h1,h2,h3,h4⟩:=kp_set0 hb hE hR hbb (Nat.le_trans hbw (Below.size hB));exact ⟨⟨_,_,h1,hbb,h2,h3⟩,Below.trans hB h4⟩
theorem own_past {w W:World} {base:Nat} {e:TypeId} {size n:Nat} {v:Value} {xs:List Value} (h:w.ownsRow base e size v n xs) (hb:Bl w W):v.ownBlock ≠ some W.heap.size:=fun e => by
 have h1:=(own_bas h e).2;have h2:=Below.size hb;omega
theorem keep_bl {w W:World} {b:Nat} {c:Obj} (hb:w.heap[b]? = some c) (h:Bl w W):W.heap[b]? = some c:=(Below.block h b (Array.getElem?_eq_some_iff.1 hb).1).trans hb
theorem put_none (base b:Nat) (es:List Ent) (rd:List Nm) (x:Ent) (hl:es.length ≤ 100000) (hT:∀ y ∈ es,Tm y) (hx:Tm x) (hp:plE es (eI x) = none) (w:World) (hK:KpS w base b es rd) (hbw:base ≤ w.heap.size) :
 Calls Tryz.prog 34 #[.pointer (some ⟨b,0,none⟩),enV x] w fun e w' => e = .returned (.tuple #[])∧KpS w' base b (insE es x) rd∧Below base w w':=by
 obtain ⟨ve,vr,hb,hbb,hE,hR⟩:=hK;have hB0:=B5.new w x 36;have PC:=Lib.hid (fun W (hh:Bl w W) => place_c es ve vr b (eI x) (by omega) W (keep_bl hb hh) (hE.ens.of_bl hh));rw [plI_none hp] at PC;have BC0:=fun W (hh:Bl w W) => bsf_c es ve x (by omega) hT hx W (hE.ens.of_bl hh)
 have IC:=Lib.hid (fun W (hh:Bl w W) vb hv hne hbW => insE_c base es x ve vb (bsE es x) (bsE_le es x) (by omega) W (hE.of_bl hh) hv hne hbW);unfold enV at BC0 ⊢;have BC:=Lib.hid BC0;have HE:=Lib.hid hE;have HR:=Lib.hid hR;obtain ⟨ao,cap,rfl,hnc⟩:=own_shp hE;clear hE hR BC0;go_enter Tryz.func34,Tryz.ntmps34;go_wp2_with (go_at_call 25; (with_reducible refine (PC.out _ Bl.z).mono ?_);rintro e w1 ⟨rfl,hb1⟩;have hW1:Bl w w1:=Bl.trans Bl.z hb1;obtain ⟨l1,x0,x1,x2,x3,x4⟩:=hB0.of_bl hb1;obtain ⟨b1,k0,k1⟩:=keep_cells (keep_bl hb hW1));go_region_with (go_at_call 56; (with_reducible refine (BC.out _ (by repeat (first | exact hW1 | refine Bl.drew ?_))).mono ?_);rintro e w2 ⟨B,rfl,hb2⟩;have hW2:Bl w w2:=Bl.trans (by repeat (first | exact hW1 | refine Bl.drew ?_)) hb2;obtain ⟨l2,y0,y1,y2,y3,y4⟩:=(hB0.of_bl hb1).of_bl (Bl.trans (by repeat (first | exact Bl.refl _ | refine Bl.drew ?_)) hb2);obtain ⟨b2,z0,z1⟩:=keep_cells (keep_bl hb hW2));all_goals
  go_wp2;go_region_with (go_at_call 57; (with_reducible refine (IC.out _ ?_ w2.heap.size ?_ ?_ ?_).mono ?_); (repeat (first | exact hW2 | refine Bl.drew ?_ | refine Bl.alloc ?_ _)); (exact heap_alloc_new _ _); (exact own_past HE.out hW2); (exact Nat.le_trans hbw (Below.size (show Bl w _ by repeat (first | exact hW2 | refine Bl.drew ?_ | refine Bl.alloc ?_ _))));rintro e w3 ⟨v3,rfl,hO3,hg3⟩;obtain ⟨kb3,hR3,hB3⟩:=put_ins hb HE.out HR.out hbw hg3 hW2.up;obtain ⟨l3,c0,c1⟩:=keep_cells kb3;have d0:=frozen_of_row (j:=0) kb3;obtain ⟨ao3,cap3,rfl,-⟩:=own_shp hO3)
 all_goals
  go_end0;exact ⟨rfl,put_fin kb3 hO3 hR3 hbb hB3 hbw⟩
end Go.Proofs.YthnpljkekhieiaaGreatDoor

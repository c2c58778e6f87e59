/- Shelves: put, where an entry of this id stands. -/
import Derived.Test.YthnpljkekhieiaaGreatDoorShT
set_option maxRecDepth 100000
set_option maxHeartbeats 4000000
namespace Go.Proofs.YthnpljkekhieiaaGreatDoor
open Go.RowKit
theorem own_row0 {w:World} {base:Nat} {v:Value} {es:List Ent} (hE:EnO w base v es) {i:Nat} (hi:i < es.length):∃ g cap,v = .slice (some ⟨g,0,none⟩) es.length cap∧g < w.heap.size∧w.cell? ⟨g,i * 5 + 3,none⟩ = some (.int .i64 (eA es[i])):=by
 obtain ⟨g,cap,cur,rfl,hbg,hg,hnc,hcm,hcs,hcur⟩:=own_rowE hE (by omega);refine ⟨g,cap,rfl,(Array.getElem?_eq_some_iff.1 hg).1,?_⟩;rw [cell_of_row hg,hcur _ (by omega),enW_at es i 3 hi (by omega)];rfl
theorem KpS.of_bl {w W:World} {base b:Nat} {es:List Ent} {rd:List Nm} (h:KpS w base b es rd) (hb:Bl w W):KpS W base b es rd:=by
 obtain ⟨ve,vr,h1,h2,h3,h4⟩:=h;exact ⟨ve,vr,keep_bl h1 hb,h2,h3.of_bl hb,h4.of_bl hb⟩
theorem in_delA {es:List Ent} {i:Nat} {y:Ent} (h:y ∈ delA es i):y ∈ es:=by
 unfold delA at h;rcases List.mem_append.1 h with h | h
 · exact List.mem_of_mem_take h
 · exact List.mem_of_mem_drop h
theorem put_box {w:World} {b q:Nat} {v:Value} {x:Ent} (h:B5 w q x) (hne:q ≠ b):B5 (w.setCell ⟨b,0,none⟩ v) q x:=h.of_gr (setCells_gr b [v] 0 w) (fun e => hne (Option.some.inj e))
theorem cell_bl {w W:World} {g j:Nat} {v:Value} (h:w.cell? ⟨g,j,none⟩ = some v) (hg:g < w.heap.size) (hb:Bl w W):W.cell? ⟨g,j,none⟩ = some v:=(hb.cells.1 g j hg).trans h
theorem put_old (base b i:Nat) (es:List Ent) (rd:List Nm) (x:Ent) (hl:es.length ≤ 100000) (_hT:∀ y ∈ es,Tm y) (_hx:Tm x) (hp:plE es (eI x) = some i) (hi:i < es.length) (hlt:eA x < eA es[i]) (w:World) (hK:KpS w base b es rd) (hbw:base ≤ w.heap.size) :
 Calls Tryz.prog 34 #[.pointer (some ⟨b,0,none⟩),enV x] w fun e w' => e = .returned (.tuple #[])∧KpS w' base b es rd∧Below base w w':=by
 obtain ⟨ve,vr,hb,hbb,hE,hR⟩:=hK;have hB0:=B5.new w x 36;have PC:=Lib.hid (fun W (hh:Bl w W) => place_c es ve vr b (eI x) (by omega) W (keep_bl hb hh) (hE.ens.of_bl hh));rw [plI_some hp] at PC;have HE:=Lib.hid hE;have HR:=Lib.hid hR;obtain ⟨g,cap,rfl,hg,hci⟩:=own_row0 hE hi;clear hE hR;unfold enV;have hneg:¬ ((i:Int) < 0):=by omega
 have hge:(0:Int) ≤ (i:Int):=by omega
 have hcmp:decide (eA x < eA es[i]) = true:=by simp [hlt]
 go_enter Tryz.func34,Tryz.ntmps34;go_wp2_with (go_at_call 25; (with_reducible refine (PC.out _ Bl.z).mono ?_);rintro e w1 ⟨rfl,hb1⟩;have hW1:Bl w w1:=Bl.trans Bl.z hb1;obtain ⟨l1,x0,x1,x2,x3,x4⟩:=hB0.of_bl hb1;obtain ⟨b1,k0,k1⟩:=keep_cells (keep_bl hb hW1);have ci:=cell_bl hci hg hW1);go_region;go_wp2;refine bodyPost_ret (results_none rfl _ _ _) rfl ?_;have hW2:Bl w w1.drew:=hW1.drew;exact ⟨rfl,KpS.of_bl ⟨_,_,hb,hbb,HE.out,HR.out⟩ hW2,Below.mono hW2 hbw⟩
theorem put_new (base b i:Nat) (es:List Ent) (rd:List Nm) (x:Ent) (hl:es.length ≤ 100000) (hT:∀ y ∈ es,Tm y) (hx:Tm x) (hp:plE es (eI x) = some i) (hi:i < es.length) (hlt:¬ eA x < eA es[i]) (w:World) (hK:KpS w base b es rd) (hbw:base ≤ w.heap.size) :
 Calls Tryz.prog 34 #[.pointer (some ⟨b,0,none⟩),enV x] w fun e w' => e = .returned (.tuple #[])∧KpS w' base b (insE (delA es i) x) rd∧Below base w w':=by
 obtain ⟨ve,vr,hb,hbb,hE,hR⟩:=hK;have hB0:=B5.new w x 36;have PC:=Lib.hid (fun W (hh:Bl w W) => place_c es ve vr b (eI x) (by omega) W (keep_bl hb hh) (hE.ens.of_bl hh));rw [plI_some hp] at PC;have HE:=Lib.hid hE;have HR:=Lib.hid hR;have hqb:w.heap.size ≠ b:=by have:=(keep_cells hb).1;omega
 have hdl:(delA es i).length + 1 = es.length:=by unfold delA;simp [List.length_take,List.length_drop];omega
 have DC:=Lib.hid (fun W (hh:Bl w W) => delE_c base es ve i hi (by omega) W (hE.of_bl hh));have BC0:=fun vd W (hh:EnO W base vd (delA es i)) => bsf_c (delA es i) vd x (by omega) (fun y hy => hT y (in_delA hy)) hx W hh.ens
 have IC:=Lib.hid (fun vd W (hh:EnO W base vd (delA es i)) vb hv hne hbW => insE_c base (delA es i) x vd vb (bsE (delA es i) x) (bsE_le _ x) (by omega) W hh hv hne hbW);obtain ⟨g,cap,rfl,hg,hci⟩:=own_row0 hE hi;clear hE hR;unfold enV at BC0;have BC:=Lib.hid BC0;clear BC0;have hw1:IntKind.i64.wrap ((i:Int) + 1) = (i:Int) + 1:=by rw [IntKind.wrap_i64];omega
 unfold enV;have hneg:¬ ((i:Int) < 0):=by omega
 have hge:(0:Int) ≤ (i:Int):=by omega
 have hcmp:decide (eA x < eA es[i]) = false:=by simp [hlt]
 go_enter Tryz.func34,Tryz.ntmps34;go_wp2_with (go_at_call 25; (with_reducible refine (PC.out _ Bl.z).mono ?_);rintro e w1 ⟨rfl,hb1⟩;have hW1:Bl w w1:=Bl.trans Bl.z hb1;obtain ⟨l1,x0,x1,x2,x3,x4⟩:=hB0.of_bl hb1;obtain ⟨b1,k0,k1⟩:=keep_cells (keep_bl hb hW1);have ci:=cell_bl hci hg hW1);go_region;go_wp2_with (go_at_call 55; (with_reducible refine (DC.out _ hW1.up).mono ?_);rintro e w3 ⟨v3,rfl,hO3,ho3,hg3⟩;obtain ⟨kb3,hR3,hB3⟩:=put_ins hb HE.out HR.out hbw hg3 hW1.up;have hB3':=((hB0.of_bl hb1).of_bl Bl.z).of_gr hg3 (fun e => by have h1:=(own_bas HE.out (show Value.ownBlock _ = some w.heap.size from e.symm)).2;omega);obtain ⟨l3,c0,c1⟩:=keep_cells kb3;have d0:=frozen_of_row (j:=0) kb3;obtain ⟨ao3,cap3,rfl,-⟩:=own_shp hO3);obtain ⟨kd,hOd,hRd,hBd⟩:=kp_set0 kb3 hO3 hR3 hbb (Nat.le_trans hbw (Below.size hB3));have hBx:=put_box (v:=.slice ao3 (delA es i).length cap3) hB3' hqb;have hbd:=Below.trans hB3 hBd;generalize w3.setCell ⟨b,0,none⟩ (.slice ao3 (delA es i).length cap3) = wd at *;have hbwd:=Nat.le_trans hbw (Below.size hbd);clear l1 x0 x1 x2 x3 x4 k0 k1 ci hB0 hB3' c0 c1 d0 kb3 hR3 hO3 hg3 hBd;have HOd:=Lib.hid hOd;have HRd:=Lib.hid hRd;obtain ⟨l1,x0,x1,x2,x3,x4⟩:=hBx;obtain ⟨b1', k0,k1⟩:=keep_cells kd;go_region_with (go_at_call 56; (with_reducible refine (BC.out _ _ ?_).mono ?_); (exact HOd.out.of_bl Bl.z);rintro e w2 ⟨B,rfl,hb2⟩;have hW2:Bl wd w2:=Bl.trans Bl.z hb2;obtain ⟨l2,y0,y1,y2,y3,y4⟩:=(show B5 wd _ x from ⟨l1,x0,x1,x2,x3,x4⟩).of_bl hW2;obtain ⟨b2,z0,z1⟩:=keep_cells (keep_bl kd hW2));all_goals
  go_wp2;go_region_with (go_at_call 57; (with_reducible refine (IC.out _ _ ?_ w2.heap.size ?_ ?_ ?_).mono ?_); (exact HOd.out.of_bl hW2.up); (exact heap_alloc_new _ _); (exact own_past HOd.out hW2); (exact Nat.le_trans hbwd (Below.size (show Bl wd _ by repeat (first | exact hW2 | refine Bl.drew ?_ | refine Bl.alloc ?_ _))));rintro e w4 ⟨v4,rfl,hO4,hg4⟩;obtain ⟨kb4,hR4,hB4⟩:=put_ins kd HOd.out HRd.out hbwd hg4 hW2.up;obtain ⟨l4,c0,c1⟩:=keep_cells kb4;have d0:=frozen_of_row (j:=0) kb4;obtain ⟨ao4,cap4,rfl,-⟩:=own_shp hO4)
 all_goals
  go_end0;exact ⟨rfl,put_fin kb4 hO4 hR4 hbb (Below.trans hbd hB4) hbw⟩
end Go.Proofs.YthnpljkekhieiaaGreatDoor

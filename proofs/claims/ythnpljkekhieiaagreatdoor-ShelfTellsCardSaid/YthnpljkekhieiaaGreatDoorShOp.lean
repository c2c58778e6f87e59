/- Shelves that are handed in: what the row's reading gives. -/
import Derived.Test.YthnpljkekhieiaaGreatDoorGrpL
import Derived.Test.YthnpljkekhieiaaGreatDoorGrpX
set_option maxRecDepth 100000
namespace Go.Proofs.YthnpljkekhieiaaGreatDoor
open Go.RowKit Go.ChangeShapes Go.WideShapes Go.ChangeAt Go.WideElems
section
variable {H:Type} {enc:TypeId × Value → H} {w:World} {sp:Nat → Bool} {held:Bool}
theorem five_of {α:Type} {c:List α} (h:c.length = 5):∃ x y z u v,c = [x,y,z,u,v]:=by
 match c,h with
 | [x,y,z,u,v],_ => exact ⟨x,y,z,u,v,rfl⟩
theorem entry_of {n:Nat} {c:List Value} {y:DataW H × List MemPlace} (h:DataW.trod enc Tryz.prog w 0 sp held n 36 c = some y) :
 ∃ x:Ent,c = enQ x∧(eI x).length ≤ maxLen:=by
 obtain ⟨xs,m,_,rfl,hl,hlen,hf⟩:=DataW.trod_struct Tryz.underlying36 h;have c5:Tryz.prog.cellsOf 36 = 5:=by kernel_rfl
 rw [c5] at hl;obtain ⟨x0,x1,x2,x3,x4,rfl⟩:=five_of hl;match xs,hlen with
 | [y0, y1, y2, y3, y4], _ =>
   have c1:Tryz.prog.cellsOf 9 = 1:=by kernel_rfl
   have c2:Tryz.prog.cellsOf 3 = 1:=by kernel_rfl
   have h0:DataW.trod enc Tryz.prog w 0 sp held m 9 [x0] = some y0:=by
    have h:=hf 0 _ rfl;change DataW.trod enc Tryz.prog w 0 sp held m 9 (List.take (Tryz.prog.cellsOf 9) [x0,x1,x2,x3,x4]) = some y0 at h;rw [c1] at h;exact h
   have h1:DataW.trod enc Tryz.prog w 0 sp held m 9 [x1] = some y1:=by
    have h:=hf 1 _ rfl;change DataW.trod enc Tryz.prog w 0 sp held m 9 (List.take (Tryz.prog.cellsOf 9) [x1,x2,x3,x4]) = some y1 at h;rw [c1] at h;exact h
   have h2:DataW.trod enc Tryz.prog w 0 sp held m 9 [x2] = some y2:=by
    have h:=hf 2 _ rfl;change DataW.trod enc Tryz.prog w 0 sp held m 9 (List.take (Tryz.prog.cellsOf 9) [x2,x3,x4]) = some y2 at h;rw [c1] at h;exact h
   have h3:DataW.trod enc Tryz.prog w 0 sp held m 3 [x3] = some y3:=by
    have h:=hf 3 _ rfl;change DataW.trod enc Tryz.prog w 0 sp held m 3 (List.take (Tryz.prog.cellsOf 3) [x3,x4]) = some y3 at h;rw [c2] at h;exact h
   have h4:DataW.trod enc Tryz.prog w 0 sp held m 9 [x4] = some y4:=by
    have h:=hf 4 _ rfl;change DataW.trod enc Tryz.prog w 0 sp held m 9 (List.take (Tryz.prog.cellsOf 9) [x4]) = some y4 at h;rw [c1] at h;exact h
   obtain ⟨s0,e0,-,b0⟩:=DataW.trod_string Tryz.underlying9 h0;obtain ⟨s1,e1,-,-⟩:=DataW.trod_string Tryz.underlying9 h1;obtain ⟨s2,e2,-,-⟩:=DataW.trod_string Tryz.underlying9 h2;obtain ⟨k,e3,-,-⟩:=DataW.trod_int Tryz.underlying3 h3;obtain ⟨s4,e4,-,-⟩:=DataW.trod_string Tryz.underlying9 h4;cases e0;cases e1;cases e2;cases e3;cases e4;refine ⟨(s0.data.toList,s1.data.toList,s2.data.toList,k,s4.data.toList),by simp [enQ,eI,eT,eL,eA,eH],?_⟩;show s0.data.toList.length ≤ maxLen;rw [Array.length_toList];exact b0
theorem ents_of {n:Nat} {c:List Value} {y:DataW H × List MemPlace} (h:DataW.trod enc Tryz.prog w 0 sp held n 22 c = some y) :
 ∃ va l,c = [va]∧EnS w va l∧(∀ x ∈ l,(eI x).length ≤ maxLen)∧l.length ≤ maxLen:=by
 rcases DataW.trod_slice Tryz.underlying22 h with ⟨rfl,rfl⟩ | ⟨a,len,cap,elems,rest,m,rfl,rfl,rfl,_,hc,hcm,hlen,hel,_,_⟩
 · exact ⟨_,[],rfl,EnS.nil w,(fun x hx => absurd hx (by simp)),Nat.zero_le _⟩
 have c5:Tryz.prog.cellsOf 36 = 5:=by kernel_rfl
 rw [c5] at hel;obtain ⟨l,hll,hal⟩:=list_of (α:=Ent) (Q:=fun i x => (eI x).length ≤ maxLen∧∀ j,j < 5 → w.cell? ((a.add (i * 5)).add j) = (enQ x)[j]?) len (by
  intro i hi;have h1:=hel i hi;rw [List.getElem?_eq_getElem (by omega)] at h1;obtain ⟨cs,h2,h3⟩:=Option.bind_eq_some_iff.1 h1;obtain ⟨x,rfl,hx⟩:=entry_of h3;exact ⟨x,hx,(cells_get h2).2⟩)
 refine ⟨_,l,rfl,⟨some a,cap,by rw [hll],by omega,fun i hi => ?_⟩,fun x hx => ?_,by omega⟩
 · have hq:=(hal i hi).2;have q0:=(hal 0 (by omega)).2 0 (by omega);have hs:a.spot = none:=by
    have:w.cell? ((a.add (0 * 5)).add 0) = some _:=q0;have:=World.cell?_spot this;simpa [Addr.add] using this
   have hlt:=cell_lt (show w.cell? ((a.add (0 * 5)).add 0) = some _ from q0);rw [add_at hs,add_at rfl] at hlt;simp only [add_at hs,add_at (a:=⟨a.block,_,none⟩) rfl] at hq;refine ⟨a.block,a.off,?_,hlt,hq 0 (by omega),hq 1 (by omega),hq 2 (by omega),hq 3 (by omega),hq 4 (by omega)⟩;obtain ⟨b,o,s⟩:=a;subst hs;rfl
 · obtain ⟨i,hi,rfl⟩:=List.getElem_of_mem hx;exact (hal i hi).1
theorem texts_of {n:Nat} {c:List Value} {y:DataW H × List MemPlace} (h:DataW.trod enc Tryz.prog w 0 sp held n 23 c = some y) :
 ∃ va l,c = [va]∧StS w va l∧l.length ≤ maxLen:=by
 rcases DataW.trod_slice Tryz.underlying23 h with ⟨rfl,rfl⟩ | ⟨a,len,cap,elems,rest,m,rfl,rfl,rfl,_,hc,hcm,hlen,hel,_,_⟩
 · exact ⟨_,[],rfl,⟨none,0,rfl,Nat.le_refl _,fun i hi => absurd hi (by simp)⟩,Nat.zero_le _⟩
 have c1:Tryz.prog.cellsOf 9 = 1:=by kernel_rfl
 rw [c1] at hel;obtain ⟨l,hll,hal⟩:=list_of (α:=Nm) (Q:=fun i x => w.cell? (a.add i) = some (.string ⟨x.toArray⟩)) len (by
  intro i hi;have h1:=hel i hi;rw [List.getElem?_eq_getElem (by omega)] at h1;obtain ⟨cs,h2,h3⟩:=Option.bind_eq_some_iff.1 h1;obtain ⟨s,rfl,-,-⟩:=DataW.trod_string Tryz.underlying9 h3;have h4:=(cells_get h2).2 0 (by omega);exact ⟨s.data.toList,by simpa [Addr.add] using h4⟩)
 refine ⟨_,l,rfl,⟨some a,cap,by rw [hll],by omega,fun i hi => ?_⟩,by omega⟩;have hq:=hal i hi;have q0:=hal 0 (by omega);have hs:a.spot = none:=by
  have:=World.cell?_spot q0;simpa [Addr.add] using this
 have hlt:=cell_lt q0;rw [add_at hs] at hlt hq;refine ⟨a.block,a.off,?_,hlt,hq⟩;obtain ⟨b,o,s⟩:=a;subst hs;rfl
theorem maxLen_is {n:Nat} (h:n ≤ maxLen):n ≤ 9223372036854775807:=by unfold maxLen at h;omega
theorem open_shelf {r:Reach} {b0:Nat} {v:Value} {d:DataW H} {ps:List MemPlace} (hval:Value.okWide Tryz.prog w r b0 25 v) (hd:DataW.Trod enc Tryz.prog w 0 sp held 25 v d ps) :
 ∃ s,ShS w v s∧(∀ x ∈ s.1,(eI x).length ≤ 9223372036854775807)∧s.1.length ≤ 9223372036854775807∧s.2.length ≤ 9223372036854775807:=by
 obtain ⟨v0,v1,y0,y1,n,rfl,-,-,h0,h1⟩:=Joins.open_agg2 Tryz.underlying25 (of_decide_eq_true (by kernel_rfl)) (by kernel_rfl) hval hd;obtain ⟨va,l,e0,hE,hI,hl⟩:=ents_of h0;obtain ⟨vb,m,e1,hS,hm⟩:=texts_of h1;cases e0;cases e1;exact ⟨(l,m),⟨v0,v1,rfl,hE,hS⟩,fun x hx => maxLen_is (hI x hx),maxLen_is hl,maxLen_is hm⟩
theorem open_ents {r:Reach} {b0:Nat} {v:Value} {d:DataW H} {ps:List MemPlace} (hval:Value.okWide Tryz.prog w r b0 22 v) (hd:DataW.Trod enc Tryz.prog w 0 sp held 22 v d ps) :
 ∃ l,EnS w v l∧(∀ x ∈ l,(eI x).length ≤ 9223372036854775807)∧l.length ≤ 9223372036854775807:=by
 obtain ⟨a,len,cap,rfl⟩:=okWide_slice Tryz.underlying22 hval;obtain ⟨fuel,hf⟩:=hd;obtain ⟨va,l,h1,h2,h3,h4⟩:=ents_of hf;simp [Value.cells] at h1;subst h1;exact ⟨l,h2,fun x hx => maxLen_is (h3 x hx),maxLen_is h4⟩
end
end Go.Proofs.YthnpljkekhieiaaGreatDoor

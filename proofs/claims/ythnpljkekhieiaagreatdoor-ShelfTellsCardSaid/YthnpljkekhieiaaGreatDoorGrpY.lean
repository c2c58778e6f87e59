/- Shelves: the law ShelfOnce. · Shelves: the law ShelfNewest. -/
import Derived.Test.YthnpljkekhieiaaGreatDoorGrpX
import Derived.Lib.AppendZeros
namespace Go.Proofs.YthnpljkekhieiaaGreatDoor
open Go.RowKit
theorem EnS.take {w:World} {ao:Option Addr} {n c:Nat} {l:List Ent} (h:EnS w (.slice ao n c) l) (i:Nat) (hi:i ≤ n):EnS w (.slice ao i c) (l.take i):=by
 obtain ⟨a,cap,e,hc,h⟩:=h;cases e;have hlt:(l.take i).length = i:=by rw [List.length_take];omega
 refine ⟨ao,c,by rw [hlt],by omega,fun j hj => ?_⟩;have hj':j < l.length:=by omega
 rw [List.getElem_take];exact h j hj'
theorem run_append_ents {P:Program} (w:World) (base:Nat) (t ty e:TypeId) (i:TypeInfo) (z:Value) (bytes:Nat) (ht:P.underlying t = some (.slice e)) (hi:P.info? e = some i) (hz:i.zero = some z)
 (hsize:i.size = 5) (hby:i.bytes = bytes) (hzs:z.cells.size = 5)
 (v:Value) (n:Nat) (xs:List Value) (hown:w.ownsRow base e 5 v n xs) (va:Value) (al:List Ent) (hA:EnS w va al)
 (h63:n + al.length ≤ maxLen) (hbytes:(n + al.length) * bytes ≤ 140737488355328) (hbase:base ≤ w.heap.size) :
 ∃ v' w', (Builtin.append_ #[t,t] ty #[v,va]).run P w = .ok v' w' ∧ w'.ownsRow base e 5 v' (n + al.length) (xs ++ enW al)∧w.grownBy w' v.ownBlock:=by
 have hA':=hA;obtain ⟨ao,cap,rfl,-,hA⟩:=hA;cases ao with
 | none =>
   have h0:al = []:=by
    rcases al with _ | ⟨a,al⟩
    · rfl
    · obtain ⟨g,o,e,_⟩:=hA 0 (by simp);cases e
   subst h0;refine ⟨v,w,?_,by simpa [enW] using hown,Bl.toGr (Bl.refl w) _⟩;rcases hown.2 with ⟨rfl,rfl⟩ | ⟨g,cap,cur,rfl,_,_,hnc,_⟩
   · simp [Builtin.append_,run_underlying ht,sizeOf,typeInfo,hi,Builtin.lenOf,Builtin.firstCells]
   · simp [Builtin.append_,run_underlying ht,sizeOf,typeInfo,hi,Builtin.lenOf,Builtin.firstCells,hnc,storeCells]
 | some a =>
   have hnews:∀ j u,(enW al)[j]? = some u → w.cell? (a.add j) = some u:=by
    rcases al with _ | ⟨b,al⟩
    · intro j u h;simp [enW] at h
    · obtain ⟨g,o,e,_⟩:=hA 0 (by simp);cases e;exact ens_news hA'
   obtain ⟨v', w', hr,h2,h3,_⟩:=run_append_own (P:=P) w base t ty e i z 5 bytes ht hi hz hsize hby hzs (by decide) v n xs hown a al.length cap (enW al) (enW_len al) hnews (enW_one al) h63 hbytes hbase;exact ⟨v', w', hr,h2,h3⟩
end Go.Proofs.YthnpljkekhieiaaGreatDoor

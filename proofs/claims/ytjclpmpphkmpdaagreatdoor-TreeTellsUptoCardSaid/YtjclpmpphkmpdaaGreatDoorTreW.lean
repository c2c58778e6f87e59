/- Trees: textIn and inside of the laws. -/
import Derived.Test.YtjclpmpphkmpdaaGreatDoorGrpH
import Derived.BigQuiet
namespace Go.Proofs.YtjclpmpphkmpdaaGreatDoor
open Go.RowKit

theorem ntx_take (l : List Nd) (k : Nat) (h : k < l.length) : ntxL (l.take (k + 1)) = ntxL (l.take k) ++ (l[k].x ++ ntxL l[k].k) := by
  rw [take_snoc l k h, ntx_app]
  cases e : l[k] with
  | mk n a x k' => simp [ntxL, ntxN, Nd.x, Nd.k]
theorem ntx_le (l : List Nd) (k : Nat) : (ntxL (l.take k)).length ≤ (ntxL l).length := by
  have h : ntxL l = ntxL (l.take k) ++ ntxL (l.drop k) := by rw [← ntx_app, List.take_append_drop]
  rw [h, List.length_append]; omega
theorem insN_k (p li : Bool) (d : Nd) : insN p li d = ((decide (d.n = sP) && p || decide (d.n = sLi) && li) || insL (!(ulolN d.n || decide (d.n = sLi) || decide (d.n = sBq)) && (p || decide (d.n = sP))) (!ulolN d.n && (li || decide (d.n = sLi))) d.k) := by
  cases d; rfl
theorem ins_drop (p li : Bool) (l : List Nd) (k : Nat) (h : k < l.length) : insL p li (l.drop k) = (insN p li l[k] || insL p li (l.drop (k + 1))) := by
  rw [List.drop_eq_getElem_cons h]; rfl
end Go.Proofs.YtjclpmpphkmpdaaGreatDoor

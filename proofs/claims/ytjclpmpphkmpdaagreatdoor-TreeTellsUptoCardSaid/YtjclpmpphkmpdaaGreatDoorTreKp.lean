/- Trees: the law TreeKeeps. -/
import Derived.Test.YtjclpmpphkmpdaaGreatDoorTreX
import Derived.Test.YtjclpmpphkmpdaaGreatDoorTreW
import Derived.Test.YtjclpmpphkmpdaaGreatDoorTokOp
namespace Go.Proofs.YtjclpmpphkmpdaaGreatDoor
open Go.RowKit

theorem szT_at (l : List Tok) : ∀ t ∈ l, t.2.2.1.length ≤ szT l := by
  intro t ht
  obtain ⟨i, hi, rfl⟩ := List.mem_iff_getElem.1 ht
  have h1 := szT_get l i hi
  have h2 := szA_len l[i].2.2.1
  omega
theorem txB_sz (l : List Tok) : txB l ≤ szT l := by
  induction l with
  | nil => simp [txB]
  | cons t l ih => rw [txB_cons]; simp only [szT, List.map_cons, List.sum_cons] at *; omega
theorem cnt_ofM (l : List Tok) : cntL (ofM l) ≤ l.length := by
  have h1 := fin_cnt (l.foldl stp ([], []))
  have h2 := foldl_cnt l ([], [])
  have h3 : cntS (([], []) : St) = 0 := rfl
  unfold ofM
  omega
def txts (l : List Tok) : List UInt8 := l.flatMap (·.2.2.2)
theorem txts_take (l : List Tok) (k : Nat) (h : k < l.length) : txts (l.take (k + 1)) = txts (l.take k) ++ l[k].2.2.2 := by
  unfold txts
  rw [take_snoc l k h, List.flatMap_append]
  simp only [List.flatMap_cons, List.flatMap_nil, List.append_nil]
theorem txts_le (l : List Tok) (k : Nat) : (txts (l.take k)).length ≤ txB l := by
  have h : txts l = txts (l.take k) ++ txts (l.drop k) := by unfold txts; rw [← List.flatMap_append, List.take_append_drop]
  show _ ≤ (txts l).length
  rw [h, List.length_append]; omega
end Go.Proofs.YtjclpmpphkmpdaaGreatDoor

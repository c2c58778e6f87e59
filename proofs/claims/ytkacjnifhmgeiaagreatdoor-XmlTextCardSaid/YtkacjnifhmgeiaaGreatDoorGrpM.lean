/- Tokens: one; Check of the program. · Tokens: Check of the program. · Tokens: a tag that closes. -/
import Derived.Test.YtkacjnifhmgeiaaGreatDoorTokW
import Derived.Test.YtkacjnifhmgeiaaGreatDoorGrpJ
namespace Go.Proofs.YtkacjnifhmgeiaaGreatDoor
open Go.RowKit

def tkV (t : Tok) (va : Value) : Value := .agg #[.int .i64 t.1, .string ⟨t.2.1.toArray⟩, va, .string ⟨t.2.2.2.toArray⟩]
theorem tkE_kind {t : Tok} (h : t.1 < 1 ∨ 3 < t.1) : tkE t = 7 := by unfold tkE; rw [if_pos h]
theorem tkE_form {t : Tok} (h : ¬ (t.1 < 1 ∨ 3 < t.1)) (h2 : t.1 = 1 ∧ (t.2.1 ≠ [] ∨ t.2.2.1 ≠ [] ∨ t.2.2.2 = []) ∨ t.1 ≠ 1 ∧ t.2.2.2 ≠ [] ∨ t.1 = 3 ∧ t.2.2.1 ≠ []) : tkE t = 1 := by unfold tkE; rw [if_neg h, if_pos h2]
theorem tkE_text {t : Tok} (h : t.1 = 1) (h1 : t.2.1 = []) (h2 : t.2.2.1 = []) (h3 : t.2.2.2 ≠ []) : tkE t = 0 := by
  unfold tkE; rw [if_neg (by omega), if_neg (by simp [h, h1, h2, h3]), if_pos h]
theorem tkE_name {t : Tok} (h : t.1 = 2 ∨ t.1 = 3) (h1 : t.2.2.2 = []) (h2 : t.1 = 3 → t.2.2.1 = []) : tkE t = if isNm t.2.1 = false then 1 else atE t.2.2.1 := by
  unfold tkE
  rw [if_neg (by omega), if_neg, if_neg (by omega)]
  rintro (⟨a, _⟩ | ⟨_, b⟩ | ⟨c, d⟩)
  · omega
  · exact b h1
  · exact d (h2 c)
theorem emp {l : List UInt8} (h : l ≠ []) : l.isEmpty = false := by cases l <;> simp_all

end Go.Proofs.YtkacjnifhmgeiaaGreatDoor

namespace Go.Proofs.YtkacjnifhmgeiaaGreatDoor
open Go.RowKit

/-- Not too great for any machine. -/
def Sm (l : List Tok) : Prop := ∀ t ∈ l, t.2.1.length ≤ 1099511627776 ∧ t.2.2.1.length ≤ 1099511627776 ∧ (∀ a ∈ t.2.2.1, a.1.length ≤ 1099511627776 ∧ a.2.length ≤ 1099511627776) ∧ t.2.2.2.length ≤ 1099511627776
def pk (l : List Tok) : Nat → Int
  | 0 => 0
  | j + 1 => (l[j]?.map (·.1)).getD 0
theorem tkEF_cons (k : Int) (t : Tok) (l : List Tok) : tkEF k (t :: l) = if tkE t ≠ 0 then tkE t else if t.1 = 1 ∧ k = 1 then 4 else tkEF t.1 l := rfl

end Go.Proofs.YtkacjnifhmgeiaaGreatDoor

namespace Go.Proofs.YtkacjnifhmgeiaaGreatDoor
open Go.RowKit

end Go.Proofs.YtkacjnifhmgeiaaGreatDoor

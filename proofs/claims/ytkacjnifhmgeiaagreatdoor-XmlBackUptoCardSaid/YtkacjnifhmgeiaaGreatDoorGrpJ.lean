/- Trees: node of the program (printed by gen_trenode.py). · Tokens: SameTokens. -/
import Derived.Test.YtkacjnifhmgeiaaGreatDoorTreO
import Derived.Test.YtkacjnifhmgeiaaGreatDoorGrpG
import Derived.Test.YtkacjnifhmgeiaaGreatDoorTokW
import Derived.Test.YtkacjnifhmgeiaaGreatDoorTokS
namespace Go.Proofs.YtkacjnifhmgeiaaGreatDoor
open Go.RowKit

theorem ndE_t1 {r : List Nm} {a : List Atr} {x : List UInt8} {k : List Nd} (h : x = [] ∨ a ≠ [] ∨ k ≠ []) : ndE r (.mk [] a x k) = 1 := by simp only [ndE, if_true]; rw [if_pos h]
theorem ndE_t0 {r : List Nm} {x : List UInt8} (h : x ≠ []) : ndE r (.mk [] [] x []) = 0 := by simp [ndE, h]
theorem ndE_e1 {r : List Nm} {n : Nm} {a : List Atr} {x : List UInt8} {k : List Nd} (hn : n ≠ []) (h : x ≠ [] ∨ isNm n = false ∨ (emptyN n = true ∧ k ≠ [])) : ndE r (.mk n a x k) = 1 := by simp only [ndE, if_neg hn]; rw [if_pos h]
theorem ndE_e2 {r : List Nm} {n : Nm} {a : List Atr} {k : List Nd} (hn : n ≠ []) (h1 : isNm n = true) (h2 : ¬ (emptyN n = true ∧ k ≠ [])) : ndE r (.mk n a [] k) = if atE a ≠ 0 then atE a else if cls r n < r.length then 4 else 0 := by
  simp only [ndE, if_neg hn]; rw [if_neg (by simp [h1]; simpa using h2)]
end Go.Proofs.YtkacjnifhmgeiaaGreatDoor

namespace Go.Proofs.YtkacjnifhmgeiaaGreatDoor
open Go.RowKit

instance decAtr : DecidableEq Atr := inferInstanceAs (DecidableEq (List UInt8 × List UInt8))
instance decTok : DecidableEq Tok := inferInstanceAs (DecidableEq (Int × List UInt8 × List Atr × List UInt8))
end Go.Proofs.YtkacjnifhmgeiaaGreatDoor

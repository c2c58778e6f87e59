/- Trees: the law TreeBack (printed by gen_treback.py). -/
import Derived.Test.YtjclpmpphkmpdaaGreatDoorTreX
import Derived.Test.YtjclpmpphkmpdaaGreatDoorGrpS
import Derived.Test.YtjclpmpphkmpdaaGreatDoorTreKp
import Derived.Test.YtjclpmpphkmpdaaGreatDoorGrpV
namespace Go.Proofs.YtjclpmpphkmpdaaGreatDoor
open Go.RowKit

theorem build_ok (l : List Tok) (v : Value) (hz : szT l ≤ 100000000) (h0 : ckE l = 0) (W : World) (hT : TkS W v l) :
    Calls Tryz.prog 4 #[v] W fun e w' => ∃ v', e = .returned (.tuple #[v', .int .i64 0]) ∧ (∃ Q, NdS w' Q v' (ofM l)) ∧ Bl W w' := by
  have r := build_c l v W hT (Sm_of l (by omega)) (by have := txB_sz l; omega) (fun t ht => by have := szT_at l t ht; omega)
  rw [h0, show bdT l = ofM l by unfold bdT; rw [if_pos h0]] at r
  exact r
theorem build_no (l : List Tok) (v : Value) (hz : szT l ≤ 100000000) (W : World) (hT : TkS W v l) :
    Calls Tryz.prog 4 #[v] W fun e w' => ∃ v', e = .returned (.tuple #[v', .int .i64 (ckE l)]) ∧ Bl W w' :=
  (build_c l v W hT (Sm_of l (by omega)) (by have := txB_sz l; omega) (fun t ht => by have := szT_at l t ht; omega)).mono fun e w' ⟨v', he, _, hb⟩ => ⟨v', he, hb⟩
theorem flat_ok (t : List Nd) (v : Value) (P : Nat → Prop) (hw : wtL t ≤ 9000000) (h0 : ckT t = 0) (W : World) (hN : NdS W P v t) :
    Calls Tryz.prog 5 #[v] W fun e w' => ∃ ao cp, e = .returned (.tuple #[.slice ao (fltL t).length cp, .int .i64 0]) ∧ TkS w' (.slice ao (fltL t).length cp) (fltL t) ∧ Bl W w' := by
  refine (flat_c t v P W hw hN).mono fun e w' ⟨v', he, hT, hb⟩ => ?_
  rw [show flT t = fltL t by unfold flT; rw [if_pos h0]] at hT
  have hT2 := hT
  obtain ⟨ao, cp, rfl, -⟩ := hT
  rw [h0] at he
  exact ⟨ao, cp, he, hT2, hb⟩
theorem flat_no (t : List Nd) (v : Value) (P : Nat → Prop) (hw : wtL t ≤ 9000000) (h0 : ckT t ≠ 0) (W : World) (hN : NdS W P v t) :
    Calls Tryz.prog 5 #[v] W fun e w' => ∃ ao cp, e = .returned (.tuple #[.slice ao 0 cp, .int .i64 (ckT t)]) ∧ Bl W w' := by
  refine (flat_c t v P W hw hN).mono fun e w' ⟨v', he, hT, hb⟩ => ?_
  rw [show flT t = [] by unfold flT; rw [if_neg h0]] at hT
  obtain ⟨ao, cp, rfl, -⟩ := hT
  exact ⟨ao, cp, he, hb⟩
theorem same_nd (t : List Nd) (va vb : Value) (P Q : Nat → Prop) (hw : wtL t ≤ 9000000) (W : World) (ha : NdS W P va t) (hb : NdS W Q vb t) :
    Calls Tryz.prog 28 #[va, vb] W fun e w' => e = .returned (.bool true) ∧ Qt W w' := by
  have r := sameNodes_c 9500000 t t va vb P Q W (by omega) (by omega) ha hb
  rw [sameL_self] at r
  exact r
end Go.Proofs.YtjclpmpphkmpdaaGreatDoor

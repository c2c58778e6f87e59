/- Trees: the law TreeWalls. -/
import Derived.Test.YtlhodanmccpkdaaGreatDoorTreX
import Derived.Test.YtlhodanmccpkdaaGreatDoorTreW
import Derived.Test.YtlhodanmccpkdaaGreatDoorTreKp
import Derived.Test.YtlhodanmccpkdaaGreatDoorGrpN
namespace Go.Proofs.YtlhodanmccpkdaaGreatDoor
open Go.RowKit

set_option maxRecDepth 100000 in
set_option maxHeartbeats 4000000 in
theorem treeWalls_c (s : List UInt8) (hs : s.length ≤ 140737488355328) (w : World) (hE : ES w) (hM : ML w) :
    Calls Tryz.prog 5 #[.string ⟨s.toArray⟩] w fun e w' => e = .returned (.bool true) ∧ Bl w w' := by
  have GC := Lib.hid (fun W h m => treeBegun_c W h m)
  have KC := Lib.hid (fun W h m => tokenBegun_c W h m)
  by_cases h3 : 3000 < s.length
  · have RC := Lib.hid (show Calls Tryz.prog 14 #[.string ⟨s.toArray⟩] w (fun e w' => ∃ ao c, e = .returned (.tuple #[.slice ao 0 c, .int .i64 2]) ∧ Bl w w') from (read_c s w hE hM).mono fun e w' ⟨v, he, hT, hb⟩ => by
      rw [show rdT s = [] by unfold rdT; rw [if_pos h3]] at hT
      rw [show rdE s = 2 by unfold rdE; rw [if_pos h3]] at he
      obtain ⟨ao, c, rfl, _⟩ := hT
      exact ⟨ao, c, he, hb⟩)
    clear h3
    go_enter Tryz.func5, Tryz.ntmps5
    go_wp2_with (first | (go_at_call 14; (with_reducible refine RC.out.mono ?_); rintro e w1 ⟨ao, c, rfl, hb1⟩; have hE1 := hE.of_bl hb1; have hM1 := hM.of_bl hb1) | (go_at_call 7; (with_reducible refine (GC.out _ hE1 hM1).mono ?_); rintro e w2 ⟨rfl, hb2⟩; have hE2 := hE1.of_bl hb2; have hM2 := hM1.of_bl hb2) | (go_at_call 9; (with_reducible refine (KC.out _ hE2 hM2).mono ?_); rintro e w3 ⟨rfl, hb3⟩))
    go_ret
    exact ⟨rfl, hb1.trans (hb2.trans hb3)⟩
  · have RC := Lib.hid (show Calls Tryz.prog 14 #[.string ⟨s.toArray⟩] w (fun e w' => ∃ v, e = .returned (.tuple #[v, .int .i64 0]) ∧ TkS w' v (TokL s) ∧ Bl w w') from (read_c s w hE hM).mono fun e w' ⟨v, he, hT, hb⟩ => by
      rw [show rdT s = TokL s by unfold rdT; rw [if_neg h3]] at hT
      rw [show rdE s = 0 by unfold rdE; rw [if_neg h3]] at he
      exact ⟨v, he, hT, hb⟩)
    have h0 : ckE (TokL s) = 0 := TokL_ck s (by omega)
    have hz := TokL_sz s (by omega)
    have HB := Lib.hid (show bdT (TokL s) = ofM (TokL s) by unfold bdT; rw [if_pos h0])
    have BC := Lib.hid (fun v W (h : TkS W v (TokL s)) => build_c (TokL s) v W h (Sm_of _ hz) (by have := txB_sz (TokL s); omega) (fun t ht => by have := (TokL_small s (by omega) t ht).2.1; omega))
    have hcl := cnt_ofM (TokL s)
    have hl3 := (ckE_all h0).1
    have IC := Lib.hid (fun v' Q W (h : NdS W Q v' (ofM (TokL s))) => inside_c 1000000 (ofM (TokL s)) v' Q false false W (by omega) (by omega) h)
    rw [ins_ofM _ h0] at IC
    rw [h0, HB.out] at BC
    clear h3 h0 hz HB hcl hl3
    go_enter Tryz.func5, Tryz.ntmps5
    go_wp2_with (first | (go_at_call 14; (with_reducible refine RC.out.mono ?_); rintro e w1 ⟨v1, rfl, hT1, hb1⟩; have hE1 := hE.of_bl hb1; have hM1 := hM.of_bl hb1) | (go_at_call 7; (with_reducible refine (GC.out _ hE1 hM1).mono ?_); rintro e w2 ⟨rfl, hb2⟩; have hE2 := hE1.of_bl hb2; have hM2 := hM1.of_bl hb2) | (go_at_call 9; (with_reducible refine (KC.out _ hE2 hM2).mono ?_); rintro e w3 ⟨rfl, hb3⟩; have hT3 := (hT1.of_bl hb2).of_bl hb3) | (go_at_call 6; (with_reducible refine (BC.out _ _ hT3).mono ?_); rintro e w4 ⟨v4, rfl, ⟨Q4, hN4⟩, hb4⟩) | (go_at_call 15; (with_reducible refine (IC.out _ _ _ hN4).mono ?_); rintro e w5 ⟨rfl, hb5⟩))
    go_ret
    exact ⟨rfl, hb1.trans (hb2.trans (hb3.trans (hb4.trans hb5)))⟩
end Go.Proofs.YtlhodanmccpkdaaGreatDoor

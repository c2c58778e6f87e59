/- Words: the teller of words: what it writes of a node. -/
import Derived.Test.YtamdlihgecpbkaaGreatDoorGrpH
import Derived.Test.YtamdlihgecpbkaaGreatDoorGrpI
import Derived.Test.YtamdlihgecpbkaaGreatDoorGrpM
import Derived.Test.YtamdlihgecpbkaaGreatDoorGrpL
import Derived.Test.YtamdlihgecpbkaaGreatDoorGrpQ
set_option maxRecDepth 100000
set_option maxHeartbeats 4000000
namespace Go.Proofs.YtamdlihgecpbkaaGreatDoor
open Go.RowKit
theorem tel_holds : HoldsB 70 := ⟨by kernel_rfl, by decide⟩
theorem apart_c (n : Nm) (w : World) : Calls Tryz.prog 86 #[.string ⟨n.toArray⟩] w fun e w' => e = .returned (.bool (apN n)) ∧ Bl w w' := by
 have CC := Lib.hid (fun W (h : StS W (.slice (some ⟨w.heap.size, 0, none⟩) 5 5) apL) => containsS_c apL _ n (by decide) W h); have HS := Lib.hid (sts_new w apL 9 5 (by decide)); go_enter Tryz.func86, Tryz.ntmps86; go_wp2_with (go_at_call 123; (with_reducible refine (CC.out _ HS.out).mono ?_); rintro e w' ⟨rfl, hb'⟩); go_ret; exact ⟨ret_bool (by unfold apN; simp), ((Bl.refl _).alloc _).trans hb'⟩
theorem cf_blank : ∀ (args : Array Value) (W : World), Sem.run Tryz.prog (callFunc 83 args) W = .ok (.enter 83 args) W := by
 intro args W; simp [callFunc, go_sem, Tryz.func83, Tryz.f83]
def bkL (is : Bool) : List UInt8 := if is then [32] else []
theorem blank_c (is : Bool) (q B b : Nat) (l : List UInt8) (w : World) (h : BuX 70 B b l w) (hq : w.cell? ⟨q, 0, none⟩ = some (.pointer (some ⟨b, 0, none⟩))) (hlen : l.length + 1 ≤ 140737488355328) (hBw : B ≤ w.heap.size) :
 Calls Tryz.prog 83 #[.bool is, .pointer (some ⟨q, 0, none⟩)] w fun e w' => e = .returned (.tuple #[]) ∧ BuX 70 B b (l ++ bkL is) w' ∧ Fr B b w w' := by
 have WC := Lib.hid (show Calls Tryz.prog 84 #[.pointer (some ⟨b, 0, none⟩), .int .u8 32] w fun e w' => e = .returned .nilIface ∧ BuX 70 B b (l ++ [32]) w' ∧ Fr B b w w' from writeB_c 70 tel_holds B b l 32 w h hlen hBw); cases is
 · go_enter Tryz.func83, Tryz.ntmps83; go_wp2; go_end0; exact ⟨rfl, by simpa [bkL] using h, Fr.refl _ _ _⟩
 · go_enter Tryz.func83, Tryz.ntmps83; go_wp2_with (go_at_call 84; (with_reducible refine WC.out.mono ?_); rintro e w' ⟨rfl, hB, hF⟩); go_end0; exact ⟨rfl, hB, hF⟩
theorem tlN_mk (d : Nd) : tlN d = d.x ++ bkL (emptyN d.n || apN d.n) ++ tlL d.k ++ bkL (apN d.n) := by
 cases d with
 | mk n a x k => rw [tlN]; rfl
theorem tlL_app (l m : List Nd) : tlL (l ++ m) = tlL l ++ tlL m := by
 induction l with
 | nil => rfl
 | cons d l ih => simp only [List.cons_append, tlL, ih, List.append_assoc]
theorem tlL_take (l : List Nd) (k : Nat) (h : k < l.length) : tlL (l.take (k + 1)) = tlL (l.take k) ++ tlN l[k] := by
 rw [take_snoc l k h, tlL_app]; simp [tlL]
theorem tlL_le (l : List Nd) (k : Nat) (h : k < l.length) : (tlL (l.take k)).length + (tlN l[k]).length ≤ (tlL l).length := by
 have : tlL l = tlL (l.take (k + 1)) ++ tlL (l.drop (k + 1)) := by rw [← tlL_app, List.take_append_drop]
 rw [this, tlL_take l k h]; simp only [List.length_append]; omega
theorem wtN_k (d : Nd) : wtL d.k < wtN d := by
 cases d with
 | mk n a x k => simp only [wtN, Nd.k]; omega
theorem wtN_get (l : List Nd) (k : Nat) (h : k < l.length) : wtN l[k] ≤ wtL l := by
 have h1 := wt_get l k h; have h2 : wtN l[k] = 1 + l[k].n.length + wtA l[k].a + l[k].x.length + wtL l[k].k := by
  cases l[k] with
  | mk n a x k => simp only [wtN, Nd.n, Nd.a, Nd.x, Nd.k]
 omega
theorem bk_le (b : Bool) : (bkL b).length ≤ 1 := by cases b <;> decide
theorem row1 {w : World} {q : Nat} {x : Value} {t : TypeId} (h : w.heap[q]? = some (.cells #[x] t (0, 0))) : w.cell? ⟨q, 0, none⟩ = some x := by simp [World.cell?, h]
theorem row4 {w : World} {q : Nat} {x y z u : Value} {t : TypeId} (h : w.heap[q]? = some (.cells #[x, y, z, u] t (0, 0))) : w.cell? ⟨q, 0, none⟩ = some x ∧ w.cell? ⟨q, 1, none⟩ = some y ∧ w.cell? ⟨q, 2, none⟩ = some z ∧ w.cell? ⟨q, 3, none⟩ = some u := by simp [World.cell?, h]
def Rw2 (w : World) (q : Nat) (x y : Obj) : Prop := w.heap[q]? = some x ∧ w.heap[q + 1]? = some y
theorem tnode_c (B b : Nat) (N : Nat) : ∀ (d : Nd) (va vk : Value) (l : List UInt8) (w : World), wtN d < N → N ≤ 10000000 → l.length + (tlN d).length ≤ 1099511627776 → BuX 70 B b l w → B ≤ w.heap.size → b < B → (∃ a n c, va = .slice a n c) → NdS w (fun k => k < B ∧ k ≠ b) vk d.k →
 Calls Tryz.prog 49 #[.pointer (some ⟨b, 0, none⟩), .agg #[.string ⟨d.n.toArray⟩, va, .string ⟨d.x.toArray⟩, vk]] w fun e w' => e = .returned (.tuple #[]) ∧ BuX 70 B b (l ++ tlN d) w' ∧ Fr B b w w' := by
 induction N with
 | zero => intro d va vk l w h; omega
 | succ N ih =>
   intro d va vk l w hN hN2 hlen hB hBw hbB hva hK; obtain ⟨a1, n1, c1, rfl⟩ := hva; obtain ⟨ao, cap, rfl, hcap, hA⟩ := hK.get; have HIH := Lib.hid ih; have HK := Lib.hid hK; have HA := Lib.hid hA; have HT := Lib.hid (tlN_mk d); have hl1 : l.length + d.x.length + (tlL d.k).length + 2 ≤ 1099511627778 := by
    rw [tlN_mk] at hlen; simp only [List.length_append] at hlen; omega
   have hl2 : l.length + d.x.length + (bkL (emptyN d.n || apN d.n)).length + (tlL d.k).length ≤ 1099511627776 := by
    rw [tlN_mk] at hlen; simp only [List.length_append] at hlen; omega
   have hwk : wtL d.k < N := by have := wtN_k d; omega
   have hcf := cf_blank; have WC := Lib.hid (fun W (h1 : BuX 70 B b l W) (h2 : B ≤ W.heap.size) => writeT_c 70 tel_holds B b l d.x W h1 (by omega) h2); have AC := Lib.hid (fun W => apart_c d.n W); have EC := Lib.hid (fun W => empty_c d.n W); have hkl : d.k.length ≤ 1099511627776 := by have := cnt_len d.k; have := wt_cnt d.k; omega
   obtain ⟨em, hem⟩ : ∃ em, em = emptyN d.n := ⟨_, rfl⟩; obtain ⟨ap, hap⟩ : ∃ ap, ap = apN d.n := ⟨_, rfl⟩; rw [← hem] at EC HT hl2; rw [← hap] at AC HT hl2; have r1 := heap_alloc_new (w.alloc (.cells #[.pointer (some ⟨b, 0, none⟩)] 69)) (.cells #[.string ⟨d.n.toArray⟩, .slice a1 n1 c1, .string ⟨d.x.toArray⟩, .slice ao d.k.length cap] 76); rw [show (w.alloc (.cells #[.pointer (some ⟨b, 0, none⟩)] 69)).heap.size = w.heap.size + 1 by simp] at r1; have r0 := (Below.block ((Bl.refl (w.alloc (.cells #[.pointer (some ⟨b, 0, none⟩)] 69))).alloc (.cells #[.string ⟨d.n.toArray⟩, .slice a1 n1 c1, .string ⟨d.x.toArray⟩, .slice ao d.k.length cap] 76)) w.heap.size (by simp)).trans (heap_alloc_new w (.cells #[.pointer (some ⟨b, 0, none⟩)] 69)); have hB0 := hB.of_bl (((Bl.refl w).alloc (.cells #[.pointer (some ⟨b, 0, none⟩)] 69)).alloc (.cells #[.string ⟨d.n.toArray⟩, .slice a1 n1 c1, .string ⟨d.x.toArray⟩, .slice ao d.k.length cap] 76)); have hF0 : Fr B b w _ := Fr.of_bl (((Bl.refl w).alloc (.cells #[.pointer (some ⟨b, 0, none⟩)] 69)).alloc (.cells #[.string ⟨d.n.toArray⟩, .slice a1 n1 c1, .string ⟨d.x.toArray⟩, .slice ao d.k.length cap] 76)); have R0 := Lib.hid r0; have R1 := Lib.hid r1; have hne0 : w.heap.size ≠ b := by omega
   have hne1 : w.heap.size + 1 ≠ b := by omega
   clear ih hK hA hN hlen hem hap r0 r1 hB; go_enter Tryz.func49, Tryz.ntmps49; go_wp2; go_upto_region 2 with fail; go_cut [] from 8 to 13 (fun wx => BuX 70 B b (l ++ d.x) wx ∧ Fr B b w wx ∧ Rw2 wx w.heap.size (.cells #[.pointer (some ⟨b, 0, none⟩)] 69 (0, 0)) (.cells #[.string ⟨d.n.toArray⟩, .slice a1 n1 c1, .string ⟨d.x.toArray⟩, .slice ao d.k.length cap] 76 (0, 0))); case first =>
    go_region_with (first | (go_at_call 75; (with_reducible refine (WC.out _ ?_ ?_).mono ?_); (exact hB0.of_bl (Bl.drew (Bl.refl _))); (simp; omega); rintro e w7 ⟨rfl, hB7, hF7⟩)); all_goals
     go_wp2_with fail; go_meet; case rel => exact ⟨hB7, hF0.trans (Fr.trans (Fr.of_bl (Bl.drew (Bl.refl _))) hF7), hF7.row R0.out (by decide) hne0, hF7.row R1.out (by decide) hne1⟩
   case rest =>
    obtain ⟨hB7, hF7, hR7⟩ := hcut; have HR7 := Lib.hid hR7; obtain ⟨r0, r1⟩ := hR7; have q0 := row1 r0; obtain ⟨m0, m1, m2, m3⟩ := row4 r1; have l1 : w.heap.size + 1 < wc.heap.size := (Array.getElem?_eq_some_iff.1 r1).1; have hbs := hF7.size; clear r0 r1; have BC1 := Lib.hid (fun is W (h1 : BuX 70 B b (l ++ d.x) W) (h2 : W.cell? ⟨w.heap.size, 0, none⟩ = some (.pointer (some ⟨b, 0, none⟩))) (h3 : B ≤ W.heap.size) => blank_c is w.heap.size B b (l ++ d.x) W h1 h2 (by simp only [List.length_append]; omega) h3); obtain ⟨wy, hwy⟩ : ∃ wy, wy = wc := ⟨_, rfl⟩; subst hwy; go_upto_region 3 with fail; go_cut [] from 14 to 23 (fun wx => BuX 70 B b (l ++ d.x ++ bkL (em || ap)) wx ∧ Fr B b w wx ∧ Rw2 wx w.heap.size (.cells #[.pointer (some ⟨b, 0, none⟩)] 69 (0, 0)) (.cells #[.string ⟨d.n.toArray⟩, .slice a1 n1 c1, .string ⟨d.x.toArray⟩, .slice ao d.k.length cap] 76 (0, 0))); case first =>
     cases em
     · go_wp2_with (first | (go_at_call 85; (with_reducible refine (EC.out _).mono ?_); rintro e w8 ⟨rfl, rfl⟩) | (go_at_call 86; (with_reducible refine (AC.out _).mono ?_); rintro e w9 ⟨rfl, hb9⟩) | (go_at_call 83; (with_reducible refine (BC1.out _ _ ?_ ?_ ?_).mono ?_); (exact hB7.of_bl hb9); (exact (hb9.cells.1 _ _ (by omega)).trans q0); (have := Below.size hb9; omega); rintro e w10 ⟨rfl, hB10, hF10⟩)); go_meet; case rel => exact ⟨hB10, (hF7.bl hb9).trans hF10, hF10.row (keep_bl HR7.out.1 hb9) (by decide) hne0, hF10.row (keep_bl HR7.out.2 hb9) (by decide) hne1⟩
     · go_wp2_with (first | (go_at_call 85; (with_reducible refine (EC.out _).mono ?_); rintro e w8 ⟨rfl, rfl⟩) | (go_at_call 83; (with_reducible refine (BC1.out _ _ ?_ ?_ ?_).mono ?_); (exact hB7); (exact q0); omega; rintro e w10 ⟨rfl, hB10, hF10⟩)); go_meet; case rel => exact ⟨hB10, hF7.trans hF10, hF10.row HR7.out.1 (by decide) hne0, hF10.row HR7.out.2 (by decide) hne1⟩
    case rest =>
     obtain ⟨hB8, hF8, hR8⟩ := hcut; clear BC1 EC q0 m0 m1 m2 m3 l1 HR7 hF7 hB7 hbs hF0 hB0; obtain ⟨r0, r1⟩ := hR8; obtain ⟨m0, m1, m2, m3⟩ := row4 r1; have HR8 := Lib.hid r0; have HR9 := Lib.hid r1; clear r0 r1; obtain ⟨wz, hwz⟩ : ∃ wz, wz = wc := ⟨_, rfl⟩; subst hwz; obtain ⟨L, hL⟩ : ∃ L, L = l ++ d.x ++ bkL (em || ap) := ⟨_, rfl⟩; have hLl : L.length + (tlL d.k).length ≤ 1099511627776 := by rw [hL]; simp only [List.length_append]; omega
     rw [← hL] at hB8; have HT2 := Lib.hid (show L ++ tlL d.k ++ bkL ap = l ++ tlN d by rw [hL, HT.out]; simp only [List.append_assoc]); clear hL; have BC2 := Lib.hid (fun W (h1 : BuX 70 B b (L ++ tlL d.k) W) (h2 : W.cell? ⟨w.heap.size, 0, none⟩ = some (.pointer (some ⟨b, 0, none⟩))) (h3 : B ≤ W.heap.size) => blank_c ap w.heap.size B b (L ++ tlL d.k) W h1 h2 (by simp only [List.length_append]; omega) h3); go_wp2; go_loopw [27] (fun i wr => ∃ k : Nat, k ≤ d.k.length ∧ i = .int .i64 k ∧ BuX 70 B b (L ++ tlL (d.k.take k)) wr ∧ Fr B b w wr ∧ Rw2 wr w.heap.size (.cells #[.pointer (some ⟨b, 0, none⟩)] 69 (0, 0)) (.cells #[.string ⟨d.n.toArray⟩, .slice a1 n1 c1, .string ⟨d.x.toArray⟩, .slice ao d.k.length cap] 76 (0, 0))) (fun i _ => d.k.length - (intOf i).toNat); case atStart => exact ⟨0, Nat.zero_le _, rfl, by rw [List.take_zero]; simpa [tlL] using hB8, hF8, HR8.out, HR9.out⟩
     case round =>
      obtain ⟨k, hk, rfl, hB9, hF9, hR9⟩ := hrel; obtain ⟨r0, r1⟩ := hR9; have q0 := row1 r0; obtain ⟨n0, n1', n2, n3⟩ := row4 r1; have HQ0 := Lib.hid r0; have HQ1 := Lib.hid r1; have l1 : w.heap.size + 1 < wr.heap.size := (Array.getElem?_eq_some_iff.1 r1).1; have l0 : w.heap.size < wr.heap.size := by omega
      have hbs := hF9.size; clear r0 r1; by_cases hlt : k < d.k.length
      · have hK9 := HK.out.still hF9.still; obtain ⟨ao', cap', e', -, hA9⟩ := hK9.get; cases e'; obtain ⟨g, o, va, vk, rfl, hg, hgp, h1, h2, h3, h4, h5, h6⟩ := hA9 k hlt; obtain ⟨a3, n3', c3, rfl⟩ : ∃ a n c, va = .slice a n c := by obtain ⟨a, c, e, -⟩ := h5; exact ⟨a, _, c, e⟩
        obtain ⟨a4, c4, rfl⟩ : ∃ a c, vk = .slice a d.k[k].k.length c := by obtain ⟨a, c, e, -⟩ := h6; exact ⟨a, c, e⟩
        have htk := tlL_le d.k k hlt; have HS := Lib.hid (show L ++ tlL (d.k.take (k + 1)) = L ++ tlL (d.k.take k) ++ tlN d.k[k] by rw [tlL_take d.k k hlt, List.append_assoc]); have IC := Lib.hid (fun W (hW : Bl wr W) => HIH.out d.k[k] (.slice a3 n3' c3) (.slice a4 d.k[k].k.length c4) (L ++ tlL (d.k.take k)) W (by have := wtN_get d.k k hlt; omega) (by omega) (by simp only [List.length_append]; omega) (hB9.of_bl hW) (by have := Below.size hW; omega) hbB ⟨_, _, _, rfl⟩ (h6.of_bl hW)); have HB9 := Lib.hid hB9; clear h5 h6 hK9 hA9 hB9 htk; go_wp2_with (go_at_call 49; (with_reducible refine (IC.out _ ((Bl.refl _).alloc _)).mono ?_); rintro e w10 ⟨rfl, hB10, hF10⟩); go_roundw; case rel => exact ⟨k + 1, by omega, by go_num, by rw [HS.out]; exact hB10, (hF9.bl ((Bl.refl _).alloc _)).trans hF10, hF10.row (keep_bl HQ0.out ((Bl.refl _).alloc _)) (by decide) hne0, hF10.row (keep_bl HQ1.out ((Bl.refl _).alloc _)) (by decide) hne1⟩
        case measure => simp [intOf]; omega
      · have hB10 : BuX 70 B b (L ++ tlL d.k) wr := by rw [List.take_of_length_le (by omega)] at hB9; exact hB9
        clear hB9; go_wp2_with (first | (go_at_call 86; (with_reducible refine (AC.out _).mono ?_); rintro e w9 ⟨rfl, hb9⟩) | (go_at_call 83; (with_reducible refine (BC2.out _ ?_ ?_ ?_).mono ?_); (exact hB10.of_bl hb9); (exact (hb9.cells.1 _ _ (by omega)).trans q0); (have := Below.size hb9; omega); rintro e w10 ⟨rfl, hB11, hF11⟩)); go_end0; exact ⟨rfl, by rw [← HT2.out]; exact hB11, (hF9.bl hb9).trans hF11⟩
end Go.Proofs.YtamdlihgecpbkaaGreatDoor

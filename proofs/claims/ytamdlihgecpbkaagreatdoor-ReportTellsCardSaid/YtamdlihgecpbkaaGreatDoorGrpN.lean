/- Tokens: Check of the program. · Trees: Of. -/
import Derived.Test.YtamdlihgecpbkaaGreatDoorGrpM
import Derived.Test.YtamdlihgecpbkaaGreatDoorTreM
import Derived.Test.YtamdlihgecpbkaaGreatDoorGrpI
set_option maxRecDepth 100000
set_option maxHeartbeats 4000000
namespace Go.Proofs.YtamdlihgecpbkaaGreatDoor
open Go.RowKit
theorem token_c (base b : Nat) (P : Nat → Prop) (s : St) (t : Tok) (va : Value) (w : World) (hB : BdS w base b P s) (hbw : base ≤ w.heap.size) (hO : OkS s t.2.2.2.length) (ht : tkE t = 0) (hA : AtP w (· < base) va t.2.2.1) (hl : t.2.2.1.length ≤ 100000000) :
 Calls Tryz.prog 79 #[.pointer (some ⟨b, 0, none⟩), .agg #[.int .i64 t.1, .string ⟨t.2.1.toArray⟩, va, .string ⟨t.2.2.2.toArray⟩]] w fun e w' => e = .returned (.tuple #[]) ∧ (∃ P', BdS w' base b P' (stp s t)) ∧ Below base w w' := by
 have hva : ∃ a n c, va = .slice a n c := by obtain ⟨a, c, e, -⟩ := hA; exact ⟨a, _, c, e⟩
 rcases tkE_cases ht with ⟨x, hx, rfl⟩ | ⟨n, al, hn, ha, rfl⟩ | ⟨n, hn, rfl⟩
 · exact token_c1 base b P s x va w hB hbw hO hva
 · exact token_c2 base b P s n al va w hB hbw ⟨hO.iv, hO.cnt, by have := hO.txt; simpa using this⟩ ht hA hl
 · exact token_c3 base b P s n va w hB hbw ⟨hO.iv, hO.cnt, by have := hO.txt; simpa using this⟩ hva
theorem BdS.start (w : World) : BdS ((w.alloc (.cells #[.slice none 0 0] 53)).alloc (.cells #[.slice (some ⟨w.heap.size, 0, none⟩) 1 1, .slice none 0 0] 106)) w.heap.size (w.heap.size + 1) (fun _ => False) ([], []) := by
 refine ⟨w.heap.size, 1, .slice none 0 0, [], .slice none 0 0, [], ?_, ?_, rfl, (fun i hi => absurd hi (by simp)), ⟨[], NdO.nil _ _ _⟩, World.ownsRow_nil _ _ _ _, rfl, (fun p hp => by cases hp), (by simp), (fun a _ k _ e => by simp [Value.ownBlock] at e), (fun h => h), (fun h => h), (fun k e => by simp [Value.ownBlock] at e), (fun k h => False.elim h), Nat.le_succ _⟩
 · have := heap_alloc_new (w.alloc (.cells #[.slice none 0 0] 53)) (.cells #[.slice (some ⟨w.heap.size, 0, none⟩) 1 1, .slice none 0 0] 106); simpa using this
 · refine World.ownsRow.alloc ⟨by simp, .inr ⟨w.heap.size, 1, #[.slice none 0 0], rfl, Nat.le_refl _, heap_alloc_new w _, Nat.le_refl _, by decide, rfl, rfl⟩⟩ _
theorem BdS.root {w : World} {base b : Nat} {P : Nat → Prop} {s : St} (h : BdS w base b P s) (h0 : s.2 = []) :
 ∃ gn cn v, w.cell? ⟨b, 0, none⟩ = some (.slice (some ⟨gn, 0, none⟩) 1 cn) ∧ w.cell? ⟨gn, 0, none⟩ = some v ∧ (∃ a n c, v = .slice a n c) ∧ ∃ Q, NdS w Q v s.1 := by
 obtain ⟨gn, cn, vo, lv, v, oe, h⟩ := h; obtain ⟨r, f⟩ := s; simp only [] at h0; subst h0; have hl : lv = [] := List.eq_nil_of_length_eq_zero (by rw [h.len]; rfl); subst hl; obtain ⟨c0, _, _, _⟩ := h.cells; obtain ⟨n0, _, _⟩ := h.last; obtain ⟨e0, h0⟩ := h.top; obtain ⟨ao, c, e, _⟩ := own_shp h0.row; exact ⟨gn, cn, v, c0, n0, ⟨_, _, _, e⟩, _, h0.nds⟩
def txB (l : List Tok) : Nat := (l.flatMap (·.2.2.2)).length
theorem txB_app (a c : List Tok) : txB (a ++ c) = txB a + txB c := by unfold txB; rw [List.flatMap_append, List.length_append]
theorem txB_cons (t : Tok) (l : List Tok) : txB (t :: l) = t.2.2.2.length + txB l := by unfold txB; rw [List.flatMap_cons, List.length_append]
theorem of_c (l : List Tok) (v : Value) (w : World) (hT : TkS w v l) (ht : ∀ t ∈ l, tkE t = 0) (hl : l.length ≤ 3000) (hx : txB l ≤ 1099511627776) (ha : ∀ t ∈ l, t.2.2.1.length ≤ 100000000) :
 Calls Tryz.prog 47 #[v] w fun e w' => ∃ v', e = .returned v' ∧ (∃ Q, NdS w' Q v' (ofM l)) ∧ Bl w w' := by
 obtain ⟨ao, cap, rfl, hT⟩ := hT; have hB0 := BdS.start w; have hOk : ∀ k (hk : k < l.length), OkS ((l.take k).foldl stp ([], [])) l[k].2.2.2.length := by
  intro k hk; have hs : ∀ t ∈ l.take k, tkE t = 0 := fun t h => ht t (List.mem_of_mem_take h)
  refine ⟨iv_foldl _ (s := ([], [])) ⟨trivial, rfl, by simp [dpL]⟩ hs, ?_, ?_⟩
  · have := foldl_cnt (l.take k) ([], []); have e : cntS (([], []) : St) = 0 := rfl; have e2 : (l.take k).length ≤ l.length := List.length_take_le' _ _; omega
  · have := (foldl_txt (l.take k) (s := ([], [])) ⟨fun c hc => by simp at hc, trivial⟩ hs).1; rw [this]; have e : ntxS (([], []) : St) = [] := rfl; rw [e, List.nil_append]; have h2 : l = l.take k ++ l[k] :: l.drop (k + 1) := by rw [← List.drop_eq_getElem_cons hk, List.take_append_drop]
    have h3 : txB l = txB (l.take k) + (l[k].2.2.2.length + txB (l.drop (k + 1))) := by
     conv => lhs; rw [h2]
     rw [txB_app, txB_cons]
    show txB (l.take k) + _ ≤ _; omega
 have HOK := Lib.hid hOk; have HT := Lib.hid ht; have HA := Lib.hid ha; have HTK := Lib.hid hT; have hIv : Iv (l.foldl stp ([], [])) := iv_foldl l (s := ([], [])) ⟨trivial, rfl, by simp [dpL]⟩ ht; have hCn : cntS (l.foldl stp ([], [])) ≤ 100000 := by
  have := foldl_cnt l ([], []); have e : cntS (([], []) : St) = 0 := rfl; omega
 have HCL := Lib.hid (fun (P : Nat → Prop) (W : World) (hB : BdS W w.heap.size (w.heap.size + 1) P (l.foldl stp ([], []))) (hb : Bl w W) => (by have := close_c w.heap.size (w.heap.size + 1) P (l.foldl stp ([], [])) 0 W hB (Below.size hb) hIv hCn; rw [show ((0 : Nat) : Int) = 0 from rfl] at this; exact this : Calls Tryz.prog 80 #[.pointer (some ⟨w.heap.size + 1, 0, none⟩), .int .i64 0] W fun e w' => e = .returned (.tuple #[]) ∧ (∃ P', (∀ k, P k → P' k) ∧ BdS w' w.heap.size (w.heap.size + 1) P' (pops ((l.foldl stp ([], [])).2.length - 0) (l.foldl stp ([], [])))) ∧ Below w.heap.size W w' ∧ Still P W w')); clear hOk ht ha hT hIv hCn; go_enter Tryz.func47, Tryz.ntmps47; go_wp2; go_loopw [11] (fun i wr => ∃ (k : Nat) (P : Nat → Prop), k ≤ l.length ∧ i = .int .i64 k ∧ BdS wr w.heap.size (w.heap.size + 1) P ((l.take k).foldl stp ([], [])) ∧ Bl w wr) (fun i _ => l.length - (intOf i).toNat); case atStart => exact ⟨0, _, Nat.zero_le _, rfl, hB0, ((Bl.refl _).alloc _).alloc _⟩
 case round =>
  obtain ⟨k, P, hk, rfl, hB, hb⟩ := hrel; by_cases hlt : k < l.length
  · obtain ⟨g, o, va, rfl, hg, h1, h2, h3, h4, h5, h6⟩ := HTK.out k hlt; have y1 := (hb.cells.1 g _ hg).trans h1; have y2 := (hb.cells.1 g _ hg).trans h2; have y3 := (hb.cells.1 g _ hg).trans h3; have y4 := (hb.cells.1 g _ hg).trans h4; have hA := AtP.of h5 h6; have TC := Lib.hid (fun (W : World) (hbW : Bl wr W) => token_c w.heap.size (w.heap.size + 1) P _ l[k] va W (hB.of_bl hbW) (Nat.le_trans (Below.size hb) (Below.size hbW)) (HOK.out k hlt) (HT.out _ (List.getElem_mem hlt)) (hA.still (Still.of_bl (hb.trans hbW))) (HA.out _ (List.getElem_mem hlt))); obtain ⟨a, n, c, rfl⟩ : ∃ a n c, va = .slice a n c := by obtain ⟨a, c, e, -⟩ := hA; exact ⟨a, _, c, e⟩
    have HF := Lib.hid (show (l.take (k + 1)).foldl stp ([], []) = stp ((l.take k).foldl stp ([], [])) l[k] by rw [take_snoc l k hlt, List.foldl_append]; rfl); have HB := Lib.hid hb; clear h1 h2 h3 h4 h5 h6 hA hB hB0; go_wp2_with (go_at_call 79; (with_reducible refine (TC.out _ ((Bl.refl _).alloc _)).mono ?_); rintro e w2 ⟨rfl, ⟨P2, hB2⟩, hb2⟩); go_roundw; case rel => exact ⟨k + 1, P2, by omega, by go_num, by rw [HF.out]; exact hB2, Below.trans (HB.out.alloc _) hb2⟩
    case measure => simp [intOf]; omega
  · have HE := Lib.hid (show (l.take k).foldl stp ([], []) = l.foldl stp ([], []) by rw [List.take_of_length_le (by omega)]); rw [HE.out] at hB; have HB := Lib.hid hB; have HBb := Lib.hid hb; clear hB hB0 hb; go_wp2_with (go_at_call 80; (with_reducible refine (HCL.out _ _ HB.out HBb.out).mono ?_); rintro e w2 ⟨rfl, ⟨P2, -, hB2⟩, hb2, -⟩; obtain ⟨gn, cn, vr, r0, r1, r2, Q, r3⟩ := hB2.root (List.eq_nil_of_length_eq_zero (by rw [pops_len]; simp)); have hblt := hB2.blt; obtain ⟨va, vn, vc, rfl⟩ := r2; have HR := Lib.hid r3; clear hB2 r3); go_ret; exact ⟨_, rfl, ⟨Q, HR.out⟩, Below.trans HBb.out hb2⟩
end Go.Proofs.YtamdlihgecpbkaaGreatDoor

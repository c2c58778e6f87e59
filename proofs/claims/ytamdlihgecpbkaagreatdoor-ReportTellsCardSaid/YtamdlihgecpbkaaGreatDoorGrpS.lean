/- Words: find.Told of the program. · Words: word, in, Words, Has of the program. · Shelves: put, where an entry of this id stands. · Shelves: entries that are the same; slices.Contains; put, whole. · Shelves: Put, where it finds something wrong. · Shelves: Put, where nothing is wrong. · Shelves: slices.BinarySearch of texts. · Shelves: slices.Delete of one text. · Shelves: Mark. · Shelves: was; slices.IndexFunc of entries, the function a method that is bound. · Shelves: slices.DeleteFunc of entries. · Shelves: Drop. · Shelves: Unread. · Shelves: the reference's EntryAt; SameEntries, SameTexts, SameShelf. -/
import Derived.Test.YtamdlihgecpbkaaGreatDoorFdF
import Derived.Test.YtamdlihgecpbkaaGreatDoorGrpR
import Derived.Test.YtamdlihgecpbkaaGreatDoorGrpO
import Derived.Test.YtamdlihgecpbkaaGreatDoorGrpP
import Derived.Test.YtamdlihgecpbkaaGreatDoorGrpQ
import Derived.Laws.StructEq
import Derived.Deep.LoopGhost
set_option maxRecDepth 100000
set_option maxHeartbeats 4000000
namespace Go.Proofs.YtamdlihgecpbkaaGreatDoor
open Go.RowKit
theorem runeW_c (x : Nat) (W : World) : Calls Tryz.prog 51 #[.int .i32 (x : Int)] W fun e w' => e = .returned (.bool (wrn x)) ∧ W = w' := by
 by_cases hx : x < 128
 · obtain ⟨c, rfl⟩ : ∃ c : UInt8, x = c.toNat := ⟨x.toUInt8, by simp; omega⟩; have HR := Lib.hid (show wht c = wrn c.toNat by unfold wrn; rw [decide_eq_true hx]; simp); have hx' : (c.toNat : Int) < 128 := by omega
   have hw : IntKind.u8.wrap (c.toNat : Int) = c.toNat := IntWalk.u8_in _ (by omega); have WC := Lib.hid (fun W => white_c c W); clear hx; go_enter Tryz.func51, Tryz.ntmps51; go_wp2_with (go_at_call 52; (with_reducible refine (WC.out _).mono ?_); rintro e w7 ⟨rfl, rfl⟩); go_ret; exact ⟨ret_bool HR.out, rfl⟩
 · have HR := Lib.hid (show wrn x = false by unfold wrn; rw [decide_eq_false hx]; rfl); have hx' : ¬ (x : Int) < 128 := by omega
   clear hx; go_enter Tryz.func51, Tryz.ntmps51; go_wp2; go_ret; exact ⟨ret_bool HR.out.symm, rfl⟩
theorem cf_runeW : ∀ (args : Array Value) (W : World), Sem.run Tryz.prog (callFunc 51 args) W = .ok (.enter 51 args) W := by
 intro args W; simp [callFunc, go_sem, Tryz.func51, Tryz.f51]
theorem pred_white (w : World) : PredAt Tryz.prog 51 #[] encR wrn w := fun W x _ => by
 unfold FnGives; exact (runeW_c x W).mono fun e w' ⟨he, hw⟩ => ⟨he, 0, hw.symm⟩
theorem tlL_wt (l : List Nd) : (tlL l).length ≤ 2 * wtL l := by
 induction l using Nd.ind with
 | h0 => simp [tlL]
 | h1 n a x k l ik il =>
   have h1 := bk_le (emptyN n || apN n); have h2 := bk_le (apN n); have h3 := tlN_mk (.mk n a x k); simp only [Nd.n, Nd.x, Nd.k] at h3; simp only [tlL, h3, wtL, wtN, List.length_append]; omega
theorem jnW_cnt (F : List (List UInt8)) : F.length ≤ (jnW F).length + 1 := by
 cases F with
 | nil => simp
 | cons x r =>
   unfold jnW; rw [Lib.join_length]; simp only [List.length_cons, List.length_nil]; omega
theorem AtP.off {w : World} {P : Nat → Prop} {v : Value} {l : List Atr} {b : Nat} (h : AtP w P v l) (hb : ∀ o s, w.cell? ⟨b, o, none⟩ ≠ some (.string s)) : AtP w (fun k => k < w.heap.size ∧ k ≠ b) v l := by
 obtain ⟨ao, cap, rfl, hc, h⟩ := h; refine ⟨ao, cap, rfl, hc, fun i hi => ?_⟩; obtain ⟨g, o, h1, h2, h5, h3, h4⟩ := h i hi; exact ⟨g, o, h1, h2, ⟨h2, fun e => hb _ _ (e ▸ h3)⟩, h3, h4⟩
theorem NdL.off {w : World} {P : Nat → Prop} {b : Nat} (hb : ∀ o s, w.cell? ⟨b, o, none⟩ ≠ some (.string s)) (l : List Nd) : ∀ g o, NdL w P g o l → NdL w (fun k => k < w.heap.size ∧ k ≠ b) g o l := by
 induction l using Nd.ind with
 | h0 => intro g o _; trivial
 | h1 n a x k l ik il =>
   intro g o h; simp only [NdL, NdC] at h ⊢; obtain ⟨⟨va, ak, ck, h1, h2, h3, h4, h5, h6, h7⟩, h8⟩ := h; refine ⟨⟨va, ak, ck, h1, h2, h3, h4, h5.off hb, h6, fun hk => ?_⟩, il g _ h8⟩; obtain ⟨g', o', e, g1, g2, g3⟩ := h7 hk; refine ⟨g', o', e, g1, ⟨g1, fun e => ?_⟩, ik g' o' g3⟩; cases k with
   | nil => exact hk rfl
   | cons d k =>
     simp only [NdL] at g3; obtain ⟨va, vk, q, _⟩ := NdC_mk.1 g3.1; exact hb _ _ (e ▸ q)
theorem NdS.off {w : World} {P : Nat → Prop} {v : Value} {l : List Nd} {b : Nat} (h : NdS w P v l) (hb : ∀ o s, w.cell? ⟨b, o, none⟩ ≠ some (.string s)) : NdS w (fun k => k < w.heap.size ∧ k ≠ b) v l := by
 obtain ⟨ao, cap, rfl, hc, h⟩ := h; refine ⟨ao, cap, rfl, hc, fun hl => ?_⟩; obtain ⟨g, o, e, g1, g2, g3⟩ := h hl; refine ⟨g, o, e, g1, ⟨g1, fun e => ?_⟩, NdL.off hb l g o g3⟩; cases l with
 | nil => exact hl rfl
 | cons d k =>
   simp only [NdL] at g3; obtain ⟨va, vk, q, _⟩ := NdC_mk.1 g3.1; exact hb _ _ (e ▸ q)
theorem bare_cells {w : World} {b : Nat} {T : TypeId} (h : w.heap[b]? = some (.cells #[.pointer none, .slice none 0 0] T (0, 0))) : ∀ o s, w.cell? ⟨b, o, none⟩ ≠ some (.string s) := by
 intro o s e; rw [Lib.cell_of_heap h] at e; match o, e with
 | 0, e => simp at e
 | 1, e => simp at e
 | o + 2, e => simp at e
theorem Bl.trans' {w x y : World} {B : Nat} (h : Bl w x) (k : Fr B w.heap.size x y) (hB : w.heap.size ≤ B) : Bl w y :=
 ⟨k.os.trans h.os, k.tape.trans h.tape, k.output.trans h.output, Nat.le_trans h.size k.size, fun i hi => (k.block i (Nat.lt_of_lt_of_le hi h.size) (by omega) (.inl (by omega))).trans (h.block i hi)⟩
theorem joinW_c (s : List UInt8) (hs : s.length ≤ 1000000) (A : Nat) (w w' : World) (ho : w'.ownsRow w.heap.size 9 1 (.slice (some ⟨A, 0, none⟩) (Lib.goFieldsP wrn ⟨s.toArray⟩).length (Lib.goFieldsP wrn ⟨s.toArray⟩).length) (Lib.goFieldsP wrn ⟨s.toArray⟩).length ((Lib.goFieldsP wrn ⟨s.toArray⟩).map Value.string)) :
 Calls Tryz.prog 53 #[.slice (some ⟨A, 0, none⟩) (Lib.goFieldsP wrn ⟨s.toArray⟩).length (Lib.goFieldsP wrn ⟨s.toArray⟩).length, .string ⟨#[32]⟩] w' fun e w2 => e = .returned (.string ⟨(wdT s).toArray⟩) ∧ Bl w' w2 := by
 have hw : wdT s = jnW ((Lib.goFieldsP wrn ⟨s.toArray⟩).map (·.data.toList)) := by unfold wdT; rw [fd_lib]
 have hl := wd_len s; have hc := jnW_cnt ((Lib.goFieldsP wrn ⟨s.toArray⟩).map (·.data.toList)); rw [← hw, List.length_map] at hc; have hA : A < w'.heap.size := (World.ownsRow.lt ho A rfl).2; have hl2 := hl; rw [hw] at hl2; unfold jnW at hl2; rw [hw]; exact Tryz.strings_Join A 0 _ (Lib.goFieldsP wrn ⟨s.toArray⟩) ⟨#[32]⟩ w' (fun j x hx => by rw [Nat.zero_add]; have := ho.cells (g := A) rfl j (.string x) (by simp [hx]); rw [addr_add0] at this; exact this) hA (by omega) (Nat.le_refl _) (Nat.le_trans hl2 (by omega))
theorem toldW_c (s : List UInt8) (hs : s.length ≤ 3000) (w : World) (hE : ES w) (hM : ML w) :
 Calls Tryz.prog 22 #[.string ⟨s.toArray⟩] w fun e w' => e = .returned (.string ⟨(wdU s).toArray⟩) ∧ Bl w w' := by
 have h0 := TokL_ck s hs; have hsz := TokL_sum s; have hck := ckE_all h0; have hwt := wt_ofM (TokL s); have hszt := sz_flt (ofM (TokL s)); have AC := Lib.hid (fun W (h1 : ES W) (h2 : ML W) => all_c s W (by omega) h1 h2); have OC := Lib.hid (fun v W (h : TkS W v (TokL s)) => of_c (TokL s) v W h hck.2 hck.1 (by have := txB_sz (TokL s); omega) (fun t ht => by have := (TokL_small s hs t ht).2.1; omega)); have htl := tlL_wt (ofM (TokL s)); have hwl : wtL (ofM (TokL s)) ≤ 400000 := by omega
 have HT := Lib.hid (wdU_T s); obtain ⟨T, hT⟩ : ∃ T, T = ofM (TokL s) := ⟨_, rfl⟩; rw [← hT] at OC htl hwl HT; have hcl := cnt_len T; have hcw := wt_cnt T; clear hs h0 hsz hck hwt hszt hT; have f0 := heap_alloc_new w (.cells #[.pointer none, .slice none 0 0] 70); have hb0 : Bl w (w.alloc (.cells #[.pointer none, .slice none 0 0] 70)) := (Bl.refl w).alloc _; have hE0 := hE.of_bl hb0; have hM0 := hM.of_bl hb0; have F0 := Lib.hid f0; clear f0 hE hM; go_enter Tryz.func22, Tryz.ntmps22; go_wp2_with (first | (go_at_call 48; (with_reducible refine (AC.out _ hE0 hM0).mono ?_); rintro e w1 ⟨v1, rfl, hT1', hb1⟩; have hT1 := hT1'.tks; clear hT1') | (go_at_call 47; (with_reducible refine (OC.out _ _ hT1).mono ?_); rintro e w2 ⟨v2, rfl, ⟨Q2, hN2⟩, hb2⟩; have HN2 := Lib.hid hN2; obtain ⟨ao2, cap2, rfl, hcp2, -⟩ := hN2.get; clear hN2)); have f2 : w2.heap[w.heap.size]? = some (.cells #[.pointer none, .slice none 0 0] 70 (0, 0)) := keep_bl F0.out (hb1.trans hb2); have hW2 : Bl w w2 := hb0.trans (hb1.trans hb2); have HN := Lib.hid (HN2.out.off (bare_cells f2)); have HB0 := Lib.hid (BuX.fresh f2 w2.heap.size); have hlt0 : w.heap.size < w2.heap.size := (Array.getElem?_eq_some_iff.1 f2).1; clear f2 hT1 HN2; go_loopw [13] (fun i wr => ∃ k : Nat, k ≤ T.length ∧ i = .int .i64 k ∧ BuX 70 w2.heap.size w.heap.size (tlL (T.take k)) wr ∧ Fr w2.heap.size w.heap.size w2 wr) (fun i _ => T.length - (intOf i).toNat); case atStart => exact ⟨0, Nat.zero_le _, rfl, HB0.out, Fr.refl _ _ _⟩
 case round =>
  obtain ⟨k, hk, rfl, hB9, hF9⟩ := hrel; have hbs := hF9.size; by_cases hlt : k < T.length
  · have hK9 := HN.out.still hF9.still; obtain ⟨ao', cap', e', -, hA9⟩ := hK9.get; cases e'; obtain ⟨g, o, va, vk, rfl, hg, hgp, h1, h2, h3, h4, h5, h6⟩ := hA9 k hlt; obtain ⟨a3, n3', c3, rfl⟩ : ∃ a n c, va = .slice a n c := by obtain ⟨a, c, e, -⟩ := h5; exact ⟨a, _, c, e⟩
    obtain ⟨a4, c4, rfl⟩ : ∃ a c, vk = .slice a T[k].k.length c := by obtain ⟨a, c, e, -⟩ := h6; exact ⟨a, c, e⟩
    have htk := tlL_le T k hlt; have hwg := wtN_get T k hlt; have HS := Lib.hid (show tlL (T.take (k + 1)) = tlL (T.take k) ++ tlN T[k] from tlL_take T k hlt); have IC := Lib.hid (fun W (hW : Bl wr W) => tnode_c w2.heap.size w.heap.size 1000000 T[k] (.slice a3 n3' c3) (.slice a4 T[k].k.length c4) (tlL (T.take k)) W (by omega) (by omega) (by omega) (hB9.of_bl hW) (by have := Below.size hW; omega) hlt0 ⟨_, _, _, rfl⟩ (h6.of_bl hW)); clear h5 h6 hK9 hA9 hB9 htk hwg; go_wp2_with (go_at_call 49; (with_reducible refine (IC.out _ ((Bl.refl _).alloc _)).mono ?_); rintro e w10 ⟨rfl, hB10, hF10⟩); go_roundw; case rel => exact ⟨k + 1, by omega, by go_num, by rw [HS.out]; exact hB10, (hF9.bl ((Bl.refl _).alloc _)).trans hF10⟩
    case measure => simp [intOf]; omega
  · have hB10 : BuX 70 w2.heap.size w.heap.size (tlL T) wr := by rw [List.take_of_length_le (by omega)] at hB9; exact hB9
    have hWr : Bl w wr := hW2.trans' hF9 (Nat.le_of_lt hlt0); clear hB9; obtain ⟨t, ht⟩ : ∃ t, t = tlL T := ⟨_, rfl⟩; rw [← ht] at hB10 HT htl; clear ht; have SC := Lib.hid (strT_c 70 w2.heap.size w.heap.size t wr hB10); have FC := Lib.hid (fun W => Tryz.strings_FieldsFunc 51 #[] cf_runeW wrn ⟨t.toArray⟩ W (by show t.length ≤ _; omega) (pred_white W)); have JC := Lib.hid (fun A W W' h => joinW_c t (by omega) A W W' h); clear hB10; go_wp2_with (first | (go_at_call 44; ((with_reducible refine SC.out.mono ?_); rintro e w11 ⟨rfl, hF11⟩; have hW11 := hWr.trans' hF11 (Nat.le_of_lt hlt0))) | (go_at_call 50; ((with_reducible refine (FC.out _).mono ?_); rintro e w12 ⟨A, rfl, hA12, ho12, hb12⟩)) | (go_at_call 53; ((with_reducible refine (JC.out _ _ _ ho12).mono ?_); rintro e w13 ⟨rfl, hb13⟩))); go_ret; exact ⟨by rw [HT.out]; rfl, (hW11.trans hb12).trans hb13⟩
def wdE (s : Nm) : Int := if s = [] then 1 else if 60 < s.length then 2 else 0
theorem fdWord_c (s : Nm) (w : World) : Calls Tryz.prog 24 #[.string ⟨s.toArray⟩] w fun e w' => e = .returned (.int .i64 (wdE s)) ∧ w = w' := by
 by_cases h : s = []
 · subst h; go_enter Tryz.func24, Tryz.ntmps24; go_wp2; go_ret; exact ⟨rfl, rfl⟩
 · have hx := emp h; have HS := Lib.hid (show wdE s = if 60 < s.length then 2 else 0 by unfold wdE; rw [if_neg h]); clear h; by_cases h6 : 60 < s.length
   · have h6' : (60 : Int) < (s.length : Int) := by omega
     have HR := Lib.hid (show wdE s = 2 by rw [HS.out, if_pos h6]); clear h6; go_enter Tryz.func24, Tryz.ntmps24; go_wp2; go_ret; exact ⟨ret_int HR.out.symm, rfl⟩
   · have h6' : ¬ (60 : Int) < (s.length : Int) := by omega
     have HR := Lib.hid (show wdE s = 0 by rw [HS.out, if_neg h6]); clear h6; go_enter Tryz.func24, Tryz.ntmps24; go_wp2; go_ret; exact ⟨ret_int HR.out.symm, rfl⟩
def wsT (s : Nm) : Nm := if 3000 < s.length then [] else wdU s
theorem fdWords_c (s : List UInt8) (w : World) (hE : ES w) (hM : ML w) :
 Calls Tryz.prog 6 #[.string ⟨s.toArray⟩] w fun e w' => e = .returned (.tuple #[.string ⟨(wsT s).toArray⟩, .int .i64 (if 3000 < s.length then 2 else 0)]) ∧ Bl w w' := by
 by_cases h3 : 3000 < s.length
 · have h3' : (3000 : Int) < (s.length : Int) := by omega
   have HR := Lib.hid (show wsT s = [] by unfold wsT; rw [if_pos h3]); rw [if_pos h3]; clear h3; go_enter Tryz.func6, Tryz.ntmps6; go_wp2; go_ret2; exact ⟨by rw [HR.out]; rfl, Bl.refl _⟩
 · have h3' : ¬ (3000 : Int) < (s.length : Int) := by omega
   have HR := Lib.hid (show wsT s = wdU s by unfold wsT; rw [if_neg h3]); have TC := Lib.hid (fun W h1 h2 => toldW_c s (by omega) W h1 h2); rw [if_neg h3]; clear h3; go_enter Tryz.func6, Tryz.ntmps6; go_wp2_with (go_at_call 22; (with_reducible refine (TC.out _ hE hM).mono ?_); rintro e w1 ⟨rfl, hb1⟩); go_ret2; exact ⟨by rw [HR.out]; rfl, hb1⟩
theorem ctn_c (l p : List UInt8) (hl : l.length < 4294967281) (w : World) (hM : ML w) : Calls Tryz.prog 58 #[.string ⟨l.toArray⟩, .string ⟨p.toArray⟩] w fun e w' => e = .returned (.bool (Lib.contains l p)) ∧ w = w' := by
 obtain ⟨m, _, hm⟩ := hM; exact (Tryz.strings_Contains ⟨l.toArray⟩ ⟨p.toArray⟩ m w hl hm).mono fun e w' ⟨he, hw⟩ => ⟨he, hw.symm⟩
def inW (x : Ent) (s : Nm) : Bool := Lib.contains (fold (eT x)) (fold s) || Lib.contains (fold (wdU (eH x))) (fold s)
theorem wdU_len (s : List UInt8) (hs : s.length ≤ 3000) : (wdU s).length ≤ 1000000 := by
 have h0 := TokL_ck s hs; have hsz := TokL_sum s; have hwt := wt_ofM (TokL s); have htl := tlL_wt (ofM (TokL s)); have h := wd_len (tlL (ofM (TokL s))); rw [← wdU_T] at h; omega
theorem chk_in {x : Ent} (h : chkE x = 0) : (eT x).length ≤ 3000 ∧ (eL x).length ≤ 3000 ∧ (eH x).length ≤ 3000 := by
 unfold chkE at h; by_cases h1 : eI x = []
 · rw [if_pos h1] at h; omega
 · rw [if_neg h1] at h; by_cases h2 : 60 < (eI x).length ∨ 3000 < (eT x).length ∨ 3000 < (eL x).length ∨ 3000 < (eH x).length
   · rw [if_pos h2] at h; omega
   · omega
theorem fdIn_c (x : Ent) (s : Nm) (hx : chkE x = 0) (hs : s.length ≤ 60) (w : World) (hE : ES w) (hM : ML w) :
 Calls Tryz.prog 25 #[enV x, .string ⟨s.toArray⟩] w fun e w' => e = .returned (.bool (inW x s)) ∧ Bl w w' := by
 obtain ⟨x1, -, x3⟩ := chk_in hx; have hB0 := B5.new w x 23; have hb0 : Bl w (w.alloc (enO x 23)) := (Bl.refl _).alloc _; have hE0 := hE.of_bl hb0; have hM0 := hM.of_bl hb0; unfold enO at hB0 hb0 hE0 hM0; unfold enV; have hu := wdU_len (eH x) x3; have FS := Lib.hid (fun W => folded_c s (by omega) W); have FT := Lib.hid (fun W => folded_c (eT x) (by omega) W); have TC := Lib.hid (fun W h1 h2 => toldW_c (eH x) x3 W h1 h2); have FW := Lib.hid (fun W => folded_c (wdU (eH x)) (by omega) W); have C1 := Lib.hid (fun W h => ctn_c (fold (eT x)) (fold s) (by rw [fold_len]; omega) W h); have C2 := Lib.hid (fun W h => ctn_c (fold (wdU (eH x))) (fold s) (by rw [fold_len]; omega) W h); have HR := Lib.hid (show inW x s = (Lib.contains (fold (eT x)) (fold s) || Lib.contains (fold (wdU (eH x))) (fold s)) from rfl); obtain ⟨a, ha⟩ : ∃ a, a = Lib.contains (fold (eT x)) (fold s) := ⟨_, rfl⟩; obtain ⟨c, hc⟩ : ∃ c, c = Lib.contains (fold (wdU (eH x))) (fold s) := ⟨_, rfl⟩; rw [← ha] at C1 HR; rw [← hc] at C2 HR; clear ha hc hu x1 x3 hs hE hM hx; cases a; all_goals
  go_enter Tryz.func25, Tryz.ntmps25; go_wp2_with (first | (go_at_call 57; (with_reducible refine (FS.out _).mono ?_); clear FS; rintro e w1 ⟨rfl, hb1⟩; have hB1 := hB0.of_bl hb1; have HB1 := Lib.hid hB1; have hM1 := hM0.of_bl hb1; have hE1 := hE0.of_bl hb1; obtain ⟨lq, y0, y1, y2, y3, y4⟩ := hB1) | (go_at_call 57; (with_reducible refine (FT.out _).mono ?_); clear FT; rintro e w2 ⟨rfl, hb2⟩; have hM2 := hM1.of_bl hb2; have hE2 := hE1.of_bl hb2; obtain ⟨lz, z0, z1, z2, z3, z4⟩ := HB1.out.of_bl hb2) | (go_at_call 58; (with_reducible refine (C1.out _ hM2).mono ?_); rintro e w3 ⟨rfl, rfl⟩) | (go_at_call 22; (with_reducible refine (TC.out _ hE2 hM2).mono ?_); rintro e w4 ⟨rfl, hb4⟩; have hM4 := hM2.of_bl hb4) | (go_at_call 57; (with_reducible refine (FW.out _).mono ?_); rintro e w5 ⟨rfl, hb5⟩; have hM5 := hM4.of_bl hb5) | (go_at_call 58; (with_reducible refine (C2.out _ hM5).mono ?_); rintro e w6 ⟨rfl, rfl⟩)); go_ret; first | exact ⟨ret_bool (by rw [HR.out]; rfl), ((hb0.trans hb1).trans hb2).trans (hb4.trans hb5)⟩ | exact ⟨ret_bool (by rw [HR.out]; rfl), (hb0.trans hb1).trans hb2⟩
def hsE (x : Ent) (s : Nm) : Int := if chkE x = 0 then wdE s else chkE x
def hsB (x : Ent) (s : Nm) : Bool := decide (hsE x s = 0) && inW x s
theorem wdE_zero {s : Nm} (h : wdE s = 0) : s ≠ [] ∧ s.length ≤ 60 := by
 unfold wdE at h; by_cases h1 : s = []
 · rw [if_pos h1] at h; omega
 · rw [if_neg h1] at h; by_cases h2 : 60 < s.length
   · rw [if_pos h2] at h; omega
   · exact ⟨h1, by omega⟩
theorem fdHas_c (x : Ent) (s : Nm) (w : World) (hE : ES w) (hM : ML w) :
 Calls Tryz.prog 7 #[enV x, .string ⟨s.toArray⟩] w fun e w' => e = .returned (.tuple #[.bool (hsB x s), .int .i64 (hsE x s)]) ∧ Bl w w' := by
 have hB0 := B5.new w x 23; have hb0 : Bl w (w.alloc (enO x 23)) := (Bl.refl _).alloc _; have hE0 := hE.of_bl hb0; have hM0 := hM.of_bl hb0; have CC := Lib.hid (fun W h1 h2 => chkE_c x W h1 h2); have WC := Lib.hid (fun W => fdWord_c s W); have HE1 := Lib.hid (show chkE x = 0 → hsE x s = wdE s from fun h => by unfold hsE; rw [if_pos h]); have HE2 := Lib.hid (show chkE x ≠ 0 → hsE x s = chkE x from fun h => by unfold hsE; rw [if_neg h]); have HB1 := Lib.hid (show hsE x s = 0 → hsB x s = inW x s from fun h => by unfold hsB; rw [decide_eq_true h]; rfl); have HB2 := Lib.hid (show hsE x s ≠ 0 → hsB x s = false from fun h => by unfold hsB; rw [decide_eq_false h]; rfl); have IC := Lib.hid (fun (h1 : chkE x = 0) (h2 : wdE s = 0) W h3 h4 => fdIn_c x s h1 (wdE_zero h2).2 W h3 h4); unfold enO at hB0 hb0 hE0 hM0; unfold enV at CC IC ⊢; clear hE hM; obtain ⟨C, hC⟩ : ∃ C, C = chkE x := ⟨_, rfl⟩; obtain ⟨D, hD⟩ : ∃ D, D = wdE s := ⟨_, rfl⟩; rw [← hC] at CC HE1 HE2 IC; rw [← hD] at WC HE1 IC; clear hC hD; by_cases hc : C = 0
 · have HE := Lib.hid (HE1.out hc); subst hc; by_cases hd : D = 0
   · have HB := Lib.hid (HB1.out (HE.out.trans hd)); have IC2 := Lib.hid (IC.out rfl hd); subst hd; clear HE1 HE2 HB1 HB2 IC; go_enter Tryz.func7, Tryz.ntmps7; go_wp2_with (first | (go_at_call 23; (with_reducible refine (CC.out _ hE0 hM0).mono ?_); rintro e w1 ⟨rfl, hb1⟩; have hM1 := hM0.of_bl hb1; have hE1 := hE0.of_bl hb1; obtain ⟨lq, y0, y1, y2, y3, y4⟩ := hB0.of_bl hb1) | (go_at_call 24; (with_reducible refine (WC.out _).mono ?_); rintro e w2 ⟨rfl, rfl⟩) | (go_at_call 25; (with_reducible refine (IC2.out _ hE1 hM1).mono ?_); rintro e w3 ⟨rfl, hb3⟩)); go_ret2; exact ⟨by rw [HB.out, HE.out]; rfl, (hb0.trans hb1).trans hb3⟩
   · have HB := Lib.hid (HB2.out (fun h => hd (HE.out.symm.trans h))); have hd' : (D == 0) = false := by simpa using hd
     have hd2 : (D != 0) = true := by simpa using hd
     clear HE1 HE2 HB1 HB2 IC hd; go_enter Tryz.func7, Tryz.ntmps7; go_wp2_with (first | (go_at_call 23; (with_reducible refine (CC.out _ hE0 hM0).mono ?_); rintro e w1 ⟨rfl, hb1⟩; obtain ⟨lq, y0, y1, y2, y3, y4⟩ := hB0.of_bl hb1) | (go_at_call 24; (with_reducible refine (WC.out _).mono ?_); rintro e w2 ⟨rfl, rfl⟩)); go_ret2; exact ⟨by rw [HB.out, HE.out]; rfl, hb0.trans hb1⟩
 · have HE := Lib.hid (HE2.out hc); have HB := Lib.hid (HB2.out (fun h => hc (HE.out.symm.trans h))); have hd' : (C == 0) = false := by simpa using hc
   have hd2 : (C != 0) = true := by simpa using hc
   clear HE1 HE2 HB1 HB2 IC hc; go_enter Tryz.func7, Tryz.ntmps7; go_wp2_with (go_at_call 23; (with_reducible refine (CC.out _ hE0 hM0).mono ?_); rintro e w1 ⟨rfl, hb1⟩; obtain ⟨lq, y0, y1, y2, y3, y4⟩ := hB0.of_bl hb1); go_ret2; exact ⟨by rw [HB.out, HE.out]; rfl, hb0.trans hb1⟩
theorem Tryz.infoShf : (Tryz.prog.info? 27).map (·.size) = some 2 := by kernel_rfl
theorem set2 {w W : World} {q : Nat} {a b c d : Value} {t : TypeId} (h : W.heap[q]? = some (.cells #[a, b] t (0, 0))) (hb : Bl w W) (hq : w.heap.size ≤ q) :
 ((W.setCell ⟨q, 0, none⟩ c).setCell ⟨q, 1, none⟩ d).heap[q]? = some (.cells #[c, d] t (0, 0)) ∧ Bl w ((W.setCell ⟨q, 0, none⟩ c).setCell ⟨q, 1, none⟩ d) ∧ W.grownBy ((W.setCell ⟨q, 0, none⟩ c).setCell ⟨q, 1, none⟩ d) (some q) := by
 obtain ⟨c1, h1, s1, e1⟩ := set_hp (o := 0) (v := c) h; obtain ⟨c2, h2, s2, e2⟩ := set_hp (o := 1) (v := d) h1; have hc : c2 = #[c, d] := twoOf (by rw [s2, s1]; rfl) (by rw [e2, if_neg (by omega), e1]; rfl) (by rw [e2, s1]; rfl); have hg : W.grownBy ((W.setCell ⟨q, 0, none⟩ c).setCell ⟨q, 1, none⟩ d) (some q) := World.grownBy.trans (setCells_gr q [c] 0 W) (setCells_gr q [d] 1 _); exact ⟨by rw [h2, hc], Below.trans hb (gr_below hg (Below.size hb) (fun k hk => by cases hk; exact hq)), hg⟩
def acc (e l : List Ent) (k : Nat) : List Ent := (l.take k).foldl putE e
theorem own_cut {w : World} {base size n cap : Nat} {e : TypeId} {ao : Option Addr} {xs : List Value} (h : w.ownsRow base e size (.slice ao n cap) n xs) (m : Nat) (hm : m ≤ n) : w.ownsRow base e size (.slice ao m cap) m (xs.take (m * size)) := by
 obtain ⟨hl, h⟩ := h; have hms : m * size ≤ n * size := Nat.mul_le_mul_right _ hm; refine ⟨by rw [List.length_take, hl]; omega, ?_⟩; rcases h with ⟨e0, hn⟩ | ⟨g, cap', cur, h1, h2, h3, h4, h5, h6, h7⟩
 · cases e0; obtain rfl : m = 0 := by omega
   exact .inl ⟨rfl, rfl⟩
 · cases h1; refine .inr ⟨g, _, cur, rfl, h2, h3, by omega, h5, h6, ?_⟩; rw [← h7, List.take_take, Nat.min_eq_left hms]
theorem EnO.cut {w : World} {base n cap : Nat} {ao : Option Addr} {l : List Ent} (h : EnO w base (.slice ao n cap) l) (hn : n = l.length) (m : Nat) (hm : m ≤ n) : EnO w base (.slice ao m cap) (l.take m) := by
 subst hn; unfold EnO at h ⊢; have hlm : (l.take m).length = m := by rw [List.length_take]; omega
 rw [hlm, enW_take l m hm]; exact own_cut h m hm
def fresh (s : Shf) (m : List Ent) (k : Nat) : Nat := ((m.take k).filter fun x => !s.1.contains x).length
def flt (P : Ent → Bool) (l : List Ent) (k : Nat) : List Ent := (l.take k).filter fun x => !P x
theorem flt_next (P : Ent → Bool) (l : List Ent) (k : Nat) (h : k < l.length) : flt P l (k + 1) = flt P l k ++ if P l[k] then [] else [l[k]] := by
 unfold flt; rw [take_snoc l k h, List.filter_append]; congr 1; cases hc : P l[k] <;> simp only [List.filter_cons, List.filter_nil, hc] <;> rfl
def Mid (w : World) (g cap : Nat) (P : Ent → Bool) (l : List Ent) (k : Nat) : Prop :=
 ∃ cur, w.heap[g]? = some (.cells cur 23 (0, 0)) ∧ cur.size = cap * 5 ∧ (∀ j, j < (flt P l k).length * 5 → cur[j]? = (enW (flt P l k))[j]?) ∧ ∀ j, k * 5 ≤ j → j < l.length * 5 → cur[j]? = (enW l)[j]?
theorem Mid.of_bl {w W : World} {g cap : Nat} {P : Ent → Bool} {l : List Ent} {k : Nat} (h : Mid w g cap P l k) (hb : Bl w W) : Mid W g cap P l k := by
 obtain ⟨cur, h1, h2⟩ := h; exact ⟨cur, keep_bl h1 hb, h2⟩
theorem Mid.skip {w : World} {g cap : Nat} {P : Ent → Bool} {l : List Ent} {k : Nat} (h : Mid w g cap P l k) (hk : k < l.length) (hp : P l[k] = true) : Mid w g cap P l (k + 1) := by
 obtain ⟨cur, h1, h2, h3, h4⟩ := h; have e : flt P l (k + 1) = flt P l k := by rw [flt_next P l k hk, hp]; simp
 exact ⟨cur, h1, h2, by rw [e]; exact h3, fun j a b => h4 j (by omega) b⟩
theorem Mid.keep {w : World} {g cap : Nat} {P : Ent → Bool} {l : List Ent} {k : Nat} (h : Mid w g cap P l k) (hk : k < l.length) (hp : P l[k] = false) (hm : (flt P l k).length < k) (hc : l.length ≤ cap) : Mid (w.setCells g ((flt P l k).length * 5) (enQ l[k])) g cap P l (k + 1) := by
 obtain ⟨cur, h1, h2, h3, h4⟩ := h; obtain ⟨cur', e1, e2, e3⟩ := setCells_hp g _ _ (enQ l[k]) ((flt P l k).length * 5) w cur h1; have e : flt P l (k + 1) = flt P l k ++ [l[k]] := by rw [flt_next P l k hk, hp]; rfl
 have hq : (enQ l[k]).length = 5 := rfl; refine ⟨cur', e1, by rw [e2, h2], fun j hj => ?_, fun j a b => ?_⟩
 · rw [e, List.length_append, List.length_singleton] at hj; have hx : enW (flt P l k ++ [l[k]]) = enW (flt P l k) ++ enQ l[k] := by rw [enW_app]; simp [enW]
   rw [e, hx, e3 j, hq]; by_cases c : j < (flt P l k).length * 5
   · rw [if_neg (by omega), List.getElem?_append_left (by rw [enW_len]; exact c), h3 j c]
   · rw [if_pos ⟨by omega, by omega, by omega⟩, List.getElem?_append_right (by rw [enW_len]; omega), enW_len]
 · rw [e3 j, hq, if_neg (by omega), h4 j (by omega) b]
theorem Mid.cells {w : World} {g cap : Nat} {P : Ent → Bool} {l : List Ent} {k : Nat} (h : Mid w g cap P l k) (hk : k < l.length) : w.cell? ⟨g, k * 5, none⟩ = some (.string ⟨(eI l[k]).toArray⟩) ∧ w.cell? ⟨g, k * 5 + 1, none⟩ = some (.string ⟨(eT l[k]).toArray⟩) ∧
 w.cell? ⟨g, k * 5 + 2, none⟩ = some (.string ⟨(eL l[k]).toArray⟩) ∧ w.cell? ⟨g, k * 5 + 3, none⟩ = some (.int .i64 (eA l[k])) ∧ w.cell? ⟨g, k * 5 + 4, none⟩ = some (.string ⟨(eH l[k]).toArray⟩) := by
 obtain ⟨cur, h1, h2, h3, h4⟩ := h; refine ⟨?_, ?_, ?_, ?_, ?_⟩
 · rw [cell_of_row h1, h4 _ (by omega) (by omega)]; exact enW_at l k 0 hk (by omega)
 · rw [cell_of_row h1, h4 _ (by omega) (by omega)]; exact enW_at l k 1 hk (by omega)
 · rw [cell_of_row h1, h4 _ (by omega) (by omega)]; exact enW_at l k 2 hk (by omega)
 · rw [cell_of_row h1, h4 _ (by omega) (by omega)]; exact enW_at l k 3 hk (by omega)
 · rw [cell_of_row h1, h4 _ (by omega) (by omega)]; exact enW_at l k 4 hk (by omega)
theorem Mid.lt {w : World} {g cap : Nat} {P : Ent → Bool} {l : List Ent} {k : Nat} (h : Mid w g cap P l k) : g < w.heap.size := by
 obtain ⟨cur, h1, -⟩ := h; exact (Array.getElem?_eq_some_iff.1 h1).1
theorem entryAt_c (l : List Ent) (v : Value) (i : Nm) (hl : l.length ≤ 1099511627776) (w : World) (hA : EnS w v l) :
 Calls Tryz.prog 31 #[v, .string ⟨i.toArray⟩] w fun e w' => e = .returned (.int .i64 (plI l i)) ∧ w = w' := by
 obtain ⟨ao, cap, rfl, hcap, hA⟩ := hA; have HPL := Lib.hid (ixB_pl l i); go_enter Tryz.func31, Tryz.ntmps31; go_wp2; go_loopw [5] (fun j wr => ∃ k : Nat, k ≤ l.length ∧ j = .int .i64 k ∧ Hid (∀ j, j < k → decide (eI (l.getD j zE) = i) = false) ∧ w = wr) (fun j _ => l.length - (intOf j).toNat); case atStart => exact ⟨0, Nat.zero_le _, rfl, Lib.hid (fun j h => by omega), rfl⟩
 case round =>
  obtain ⟨k, hk, rfl, HP, rfl⟩ := hrel; by_cases hlt : k < l.length
  · obtain ⟨g, o, rfl, hg, h1, -, -, -, -⟩ := hA k hlt; have hgd : l.getD k zE = l[k] := getD_get _ _ _ hlt; clear hA; by_cases he : eI l[k] = i
    · have HE := Lib.hid he; have hne : (eI l[k] == i) = true := by simp [he]
      clear he; go_wp2; go_ret; exact ⟨ret_int (by rw [← HPL.out]; exact (ixB_hit _ _ k hlt (by rw [hgd]; exact decide_eq_true HE.out) HP.out).symm), rfl⟩
    · have HE := Lib.hid he; have hne : (eI l[k] == i) = false := by simpa using he
      clear he; go_wp2; go_roundw; case rel =>
       refine ⟨k + 1, by omega, by go_num, Lib.hid (fun j hjk => ?_), by trivial⟩; by_cases e : j = k
       · subst e; rw [hgd]; exact decide_eq_false HE.out
       · exact HP.out j (by omega)
      case measure => simp [intOf]; omega
  · clear hA; go_wp2; go_ret; exact ⟨ret_int (by rw [← HPL.out]; exact (ixB_miss _ _ (fun j hj => HP.out j (by omega))).symm), rfl⟩
theorem sameT_c (a b : List Nm) (va vb : Value) (hl : a.length ≤ 1099511627776) (w : World) (hA : StS w va a) (hB : StS w vb b) :
 Calls Tryz.prog 15 #[va, vb] w fun e w' => e = .returned (.bool (decide (a = b))) ∧ Qt w w' := by
 obtain ⟨ao, ca, rfl, hca, hA⟩ := hA; obtain ⟨bo, cb, rfl, hcb, hB⟩ := hB; by_cases hlen : a.length = b.length
 · have hlen' : ((a.length : Int) != (b.length : Int)) = false := by simp [hlen]
   have HL := Lib.hid hlen; have hl2 : b.length ≤ 1099511627776 := by omega
   go_enter Tryz.func15, Tryz.ntmps15; clear hlen; go_wp2; go_loopw [5] (fun i wr => ∃ k : Nat, k ≤ a.length ∧ i = .int .i64 k ∧ Hid (∀ j (h1 : j < a.length) (h2 : j < b.length), j < k → a[j] = b[j]) ∧ Qt w wr) (fun i _ => a.length - (intOf i).toNat); case atStart => exact ⟨0, Nat.zero_le _, rfl, Lib.hid (fun j _ _ h => by omega), Qt.refl _⟩
   case round =>
    obtain ⟨k, hk, rfl, HP, hq⟩ := hrel; by_cases hlt : k < a.length
    · have hltb : k < b.length := by have := HL.out; omega
      have hltb' : (k : Int) < (b.length : Int) := by omega
      obtain ⟨g, o, rfl, hg, h1⟩ := hA k hlt; obtain ⟨g', o', rfl, hg', h1'⟩ := hB k hltb; have x1 := (hq.bl.cells.1 g _ hg).trans h1; have y1 := (hq.bl.cells.1 g' _ hg').trans h1'; clear h1 h1' hA hB; by_cases he : a[k] = b[k]
      · have hne : (a[k] == b[k]) = true := by simp [he]
        have HE := Lib.hid he; clear he; go_wp2_with (go_quiet (fail)); go_roundw; case rel =>
         refine ⟨k + 1, by omega, by go_num, Lib.hid (fun j h1 h2 hj => ?_), hq.drewN _⟩; by_cases e : j = k
         · subst e; exact HE.out
         · exact HP.out j h1 h2 (by omega)
        case measure => simp [intOf]; omega
      · have hne : (a[k] == b[k]) = false := by simpa using he
        have HE := Lib.hid (list_ne k hlt hltb he); clear he; go_wp2_with (go_quiet (fail)); go_ret; exact ⟨ret_bool (by rw [decide_eq_false HE.out]), hq.drewN _⟩
    · have HE := Lib.hid (list_eq HL.out (fun j h1 h2 => HP.out j h1 h2 (by omega))); go_wp2; go_ret; exact ⟨ret_bool (by rw [HE.out]; simp), hq⟩
 · have hlen' : ((a.length : Int) != (b.length : Int)) = true := by simp; omega
   have HL := Lib.hid hlen; clear hlen; go_enter Tryz.func15, Tryz.ntmps15; go_wp2; go_ret; exact ⟨ret_bool (by rw [decide_eq_false (fun h => HL.out (by rw [h]))]), Qt.refl _⟩
end Go.Proofs.YtamdlihgecpbkaaGreatDoor

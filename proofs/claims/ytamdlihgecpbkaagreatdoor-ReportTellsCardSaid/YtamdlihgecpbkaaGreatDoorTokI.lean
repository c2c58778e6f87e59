/- Tokens: attributes that are read. -/
import Derived.Test.YtamdlihgecpbkaaGreatDoorGrpF
import Derived.Deep.Cut
import Derived.Deep.CutRange
import Derived.Deep.DeepCutAuto
set_option maxRecDepth 100000
set_option maxHeartbeats 4000000
namespace Go.Proofs.YtamdlihgecpbkaaGreatDoor
open Go.RowKit
def atC (l : List Atr) : List Value := l.flatMap fun a => [.string ⟨a.1.toArray⟩, .string ⟨a.2.toArray⟩]
theorem atC_len (l : List Atr) : (atC l).length = l.length * 2 := by
 induction l with
 | nil => rfl
 | cons a l ih => simp only [atC, List.flatMap_cons, List.length_append, List.length_cons, List.length_nil] at *; omega
theorem atC_snoc (l : List Atr) (a : Atr) : atC (l ++ [a]) = atC l ++ [.string ⟨a.1.toArray⟩, .string ⟨a.2.toArray⟩] := by simp [atC]
theorem atC_get : ∀ (l : List Atr) (i : Nat) (h : i < l.length), (atC l)[i * 2]? = some (.string ⟨l[i].1.toArray⟩) ∧ (atC l)[i * 2 + 1]? = some (.string ⟨l[i].2.toArray⟩) := by
 intro l; induction l with
 | nil => intro i h; simp at h
 | cons a l ih =>
   intro i h; cases i with
   | zero => simp [atC]
   | succ i =>
     have := ih i (by simpa using h); have e : (i + 1) * 2 = i * 2 + 1 + 1 := by omega
     rw [e]; simp only [atC, List.flatMap_cons, List.cons_append, List.nil_append, List.getElem?_cons_succ, List.getElem_cons_succ] at *; exact this
def AtO (w : World) (base : Nat) (v : Value) (l : List Atr) : Prop := w.ownsRow base 123 2 v l.length (atC l)
theorem AtO.ats {w : World} {base : Nat} {v : Value} {l : List Atr} (h : AtO w base v l) : AtS w v l := by
 have h' := h; rcases h.2 with ⟨rfl, h0⟩ | ⟨g, cap, cur, rfl, -, hg, -⟩
 · exact ⟨none, 0, by rw [h0], fun i hi => by omega⟩
 · refine ⟨_, cap, rfl, fun i hi => ⟨g, 0, rfl, (Array.getElem?_eq_some_iff.1 hg).1, ?_, ?_⟩⟩
   · have := World.ownsRow.cells h' (g := g) rfl _ _ (atC_get l i hi).1; by_cases e : i = 0
     · subst e; simpa [Addr.add] using this
     · have e2 : i * 2 ≠ 0 := by omega
       simpa only [Addr.add, if_neg e2, Nat.zero_add] using this
   · have := World.ownsRow.cells h' (g := g) rfl _ _ (atC_get l i hi).2; simpa [Addr.add] using this
theorem AtO.of_gb {w w' : World} {base : Nat} {v : Value} {l : List Atr} {b : Nat} (h : AtO w base v l) (hg : w.grownBy w' (some b)) (hb : b < base) : AtO w' base v l :=
 World.ownsRow.kept h hg (by
  cases hv : v.ownBlock with
  | none => exact Or.inl rfl
  | some k => right; have := (World.ownsRow.lt h k hv).1; simp; omega)
theorem Rr.meas {w : World} {b : Nat} {s t x : List UInt8} {v : Value} (h : Rr w b s t x v) : s.length - atOf b w = t.length := by
 rw [h.rk.at_eq]; have := h.len; omega
def AtEnd (w0 : World) (b : Nat) (s x : List UInt8) (v : Value) (R : Option (List Atr × List UInt8)) (e : Ending) (w' : World) : Prop :=
 w0.grownBy w' (some b) ∧ match R with
  | none => e = .panicked OPN ∧ ∃ t', Rr w' b s t' x v
  | some (l, u) => ∃ va, e = .returned va ∧ AtO w' w0.heap.size va l ∧ Rr w' b s u x v
theorem Tryz.infoAtr : (Tryz.prog.info? 123).map (fun i => (i.zero, i.size, i.bytes)) = some (some (.agg #[.string ⟨#[]⟩, .string ⟨#[]⟩]), 2, 32) := by kernel_rfl
theorem gb_fresh {w w' : World} {b : Nat} {g : Option Nat} {w0 : World} (h0 : w0.grownBy w (some b)) (h : w.grownBy w' g) (hg : ∀ k, g = some k → w0.heap.size ≤ k) : w0.grownBy w' (some b) :=
 ⟨h.os.trans h0.os, h.tape.trans h0.tape, h.output.trans h0.output, Nat.le_trans h0.size h.size, fun k hk hne => (h.block k (Nat.lt_of_lt_of_le hk h0.size) (fun e => by have := hg k e.symm; omega)).trans (h0.block k hk hne)⟩
theorem is61_iff (d : UInt8) : is61 d = true ↔ d = 61 := by
 simp only [is61, decide_eq_true_eq]; exact ⟨fun h => UInt8.toNat_inj.1 h, fun h => by rw [h]; rfl⟩
theorem oneAt_no61 (c : UInt8) (r : List UInt8) (h : hd is61 ((r.dropWhile nch).dropWhile wht) = false) : oneAt c r = some ((fold (c :: r.takeWhile nch), []), (r.dropWhile nch).dropWhile wht) := by
 unfold oneAt; split
 · rename_i e; rw [e]
 · rename_i d s e; rw [e] at h ⊢; rw [if_neg (by rintro rfl; simp [hd, is61] at h)]
theorem oneAt_61 (c : UInt8) (r : List UInt8) (h : hd is61 ((r.dropWhile nch).dropWhile wht) = true) : ∃ s, (r.dropWhile nch).dropWhile wht = 61 :: s ∧ oneAt c r = (match valOf s with | none => none | some (v, u) => some ((fold (c :: r.takeWhile nch), (Tk v).1), u)) := by
 unfold oneAt; split
 · rename_i e; rw [e] at h; exact absurd h (by decide)
 · rename_i d s e; rw [e] at h ⊢; obtain rfl := (is61_iff d).1 h; exact ⟨s, rfl, by rw [if_pos rfl]; rcases valOf s with _ | ⟨_, _⟩ <;> rfl⟩
def Ab (w : World) (q : Nat) (n y : List UInt8) : Prop := q < w.heap.size ∧ w.cell? ⟨q, 0, none⟩ = some (.string ⟨n.toArray⟩) ∧ w.cell? ⟨q, 1, none⟩ = some (.string ⟨y.toArray⟩) ∧ w.frozen? ⟨q, 0, none⟩ = false ∧ w.frozen? ⟨q, 1, none⟩ = false
theorem Ab.of_gb {w w' : World} {q b : Nat} {n y : List UInt8} (h : Ab w q n y) (hg : w.grownBy w' (some b)) (hne : q ≠ b) : Ab w' q n y := by
 have hb := hg.block q h.1 (by simpa using hne); exact ⟨Nat.lt_of_lt_of_le h.1 hg.size, (World.cell?_of_block hb).trans h.2.1, (World.cell?_of_block hb).trans h.2.2.1, (World.frozen?_of_block hb).trans h.2.2.2.1, (World.frozen?_of_block hb).trans h.2.2.2.2⟩
theorem Ab.of_bl {w w' : World} {q : Nat} {n y : List UInt8} (h : Ab w q n y) (hb : Bl w w') : Ab w' q n y :=
 ⟨Nat.lt_of_lt_of_le h.1 (Below.size hb), (hb.cells.1 q 0 h.1).trans h.2.1, (hb.cells.1 q 1 h.1).trans h.2.2.1, (hb.cells.2 q 0 h.1).trans h.2.2.2.1, (hb.cells.2 q 1 h.1).trans h.2.2.2.2⟩
theorem gb_setnew {w W : World} {g : Option Nat} (h : w.grownBy W g) {q : Nat} (hq : w.heap.size ≤ q) (o : Nat) (v : Value) : w.grownBy (W.setCell ⟨q, o, none⟩ v) g :=
 ⟨h.os, h.tape, h.output, by simpa using h.size, fun k hk hne => (Below.heap_setCell W ⟨q, o, none⟩ v k (by simp; omega)).trans (h.block k hk hne)⟩
theorem new_kept2 {W W' : World} {x y : Value} {t : TypeId} {C : Prop} (hb : Bl (W.alloc (.cells #[x, y] t)).drew W') (k : W.heap.size < W'.heap.size → W'.cell? ⟨W.heap.size, 0, none⟩ = some x → W'.cell? ⟨W.heap.size, 1, none⟩ = some y → W'.frozen? ⟨W.heap.size, 0, none⟩ = false → W'.frozen? ⟨W.heap.size, 1, none⟩ = false → C) : C := by
 have hlt : W.heap.size < (W.alloc (.cells #[x, y] t)).drew.heap.size := by simp
 refine k (Nat.lt_of_lt_of_le hlt (Below.size hb)) ?_ ?_ ?_ ?_
 · rw [hb.cells.1 _ 0 hlt]; simp
 · rw [hb.cells.1 _ 1 hlt]; simp
 · rw [hb.cells.2 _ 0 hlt]; simp
 · rw [hb.cells.2 _ 1 hlt]; simp
theorem Rr.far {w : World} {b q o : Nat} {s t x : List UInt8} {v u : Value} (h : Rr w b s t x v) (hne : b ≠ q) : Rr (w.setCell ⟨q, o, none⟩ u) b s t x v :=
 ⟨h.rk.of_gb (gb_set (gb_refl _ _) o u) (by simp; exact hne), h.sf⟩
theorem b0_drew (w : World) : Bl w w.drew := (Bl.refl w).drew
theorem meetB {wr w3 w4 : World} {b : Nat} {s r1 x n : List UInt8} {v : Value} (hR3 : Rr w3 b s r1 x v) (hg : wr.grownBy w3 (some b)) (hb4 : Bl w3.drew w4) :
 ∃ q : Nat, Value.pointer (some ⟨w4.heap.size, 0, none⟩) = .pointer (some ⟨q, 0, none⟩) ∧ wr.heap.size ≤ q ∧ Ab (w4.alloc (.cells #[.string ⟨n.toArray⟩, .string ⟨#[]⟩] 123)) q n [] ∧ Rr (w4.alloc (.cells #[.string ⟨n.toArray⟩, .string ⟨#[]⟩] 123)) b s r1 x v ∧ wr.grownBy (w4.alloc (.cells #[.string ⟨n.toArray⟩, .string ⟨#[]⟩] 123)) (some b) :=
 ⟨_, rfl, Nat.le_trans hg.size (Nat.le_trans (Below.size (b0_drew w3)) (Below.size hb4)), ⟨by simp, by simp, by simp, by simp, by simp⟩, ((hR3.of_bl (b0_drew w3)).of_bl hb4).of_bl ((Bl.refl _).alloc _), gb_trans hg (gb_bl (((b0_drew w3).trans hb4).alloc _))⟩
theorem meetA {wr w3 w4 : World} {b : Nat} {s r1 x n : List UInt8} {v : Value} (hR3 : Rr w3 b s r1 x v) (hg : wr.grownBy w3 (some b)) (hb4 : Bl (w3.alloc (.cells #[.string ⟨#[]⟩, .string ⟨#[]⟩] 123)).drew w4) :
 ∃ q : Nat, Value.pointer (some ⟨w3.heap.size, 0, none⟩) = .pointer (some ⟨q, 0, none⟩) ∧ wr.heap.size ≤ q ∧ Ab ((w4.setCell ⟨w3.heap.size, 0, none⟩ (.string ⟨n.toArray⟩)).setCell ⟨w3.heap.size, 1, none⟩ (.string ⟨#[]⟩)) q n [] ∧ Rr ((w4.setCell ⟨w3.heap.size, 0, none⟩ (.string ⟨n.toArray⟩)).setCell ⟨w3.heap.size, 1, none⟩ (.string ⟨#[]⟩)) b s r1 x v ∧ wr.grownBy ((w4.setCell ⟨w3.heap.size, 0, none⟩ (.string ⟨n.toArray⟩)).setCell ⟨w3.heap.size, 1, none⟩ (.string ⟨#[]⟩)) (some b) := by
 have hne : b ≠ w3.heap.size := Nat.ne_of_lt hR3.rk.lt; refine new_kept2 hb4 ?_; intro zl z0 z1 zf0 zf1; refine ⟨_, rfl, hg.size, ⟨by simpa using zl, ?_, ?_, ?_, ?_⟩, ((hR3.of_bl ((((Bl.refl w3).alloc _).drew).trans hb4)).far hne).far hne, ?_⟩
 · rw [World.cell?_setCell_other _ _ _ _ (by simp), World.cell?_setCell_same _ _ _ z0]
 · rw [World.cell?_setCell_same _ _ _ (by rw [World.cell?_setCell_other _ _ _ _ (by simp)]; exact z1)]
 · rw [World.frozen?_setCell, World.frozen?_setCell]; exact zf0
 · rw [World.frozen?_setCell, World.frozen?_setCell]; exact zf1
 · exact gb_setnew (gb_setnew (gb_trans hg (gb_bl ((((Bl.refl w3).alloc _).drew).trans hb4))) hg.size _ _) hg.size _ _
theorem AtO.of_bl {w w' : World} {base : Nat} {v : Value} {l : List Atr} (h : AtO w base v l) (hb : Bl w w') : AtO w' base v l :=
 World.ownsRow.kept h (gb_bl (b := none) hb) (by cases hv : v.ownBlock <;> simp)
theorem app_meet {w w8 wz : World} {b : Nat} {s u x : List UInt8} {v va v' : Value} {out : List Atr} {a : Atr} {o : Obj} (hR8 : Rr w8 b s u x v) (hO8 : AtO w8 w.heap.size va out) (hgw : w.grownBy w8 (some b)) (hb : b < w.heap.size)
 (hown' : wz.ownsRow w.heap.size 123 2 v' (out.length + 1) (atC out ++ [.string ⟨a.1.toArray⟩, .string ⟨a.2.toArray⟩])) (hgrow : (w8.alloc o).grownBy wz va.ownBlock) :
 AtO wz w.heap.size v' (out ++ [a]) ∧ Rr wz b s u x v ∧ w.grownBy wz (some b) := by
 have hlt := World.ownsRow.lt hO8; have hR9 := hR8.of_bl (((Bl.refl w8).alloc o)); refine ⟨?_, ⟨hR9.rk.of_gb hgrow ?_, hR8.sf⟩, gb_fresh (gb_trans hgw (alloc_gb w8 o (some b))) hgrow (fun k hk => (hlt k hk).1)⟩
 · unfold AtO; rw [atC_snoc, List.length_append]; exact hown'
 · intro e; have := (hlt b e.symm).1; omega
theorem addA_no {out : List Atr} {n y : List UInt8} (h : isNm n = false) : addA out (n, y) = out := by unfold addA; simp [h]
theorem addA_there {out : List Atr} {n y : List UInt8} (h : out.any (isN n) = true) : addA out (n, y) = out := by
 unfold addA; have : (out.any fun x => x.1 == n) = true := h; simp [this]
theorem addA_new {out : List Atr} {n y : List UInt8} (h : isNm n = true) (h2 : out.any (isN n) = false) : addA out (n, y) = out ++ [(n, y)] := by
 unfold addA; have : (out.any fun x => x.1 == n) = false := h2; rw [if_pos (by simp [h, this])]
theorem ES.of_gb {w W : World} {b : Nat} (h : ES w) (hg : w.grownBy W (some b)) (hb : 1 < b) : ES W := by
 obtain ⟨te, pe, h1, h2⟩ := h; exact ⟨te, pe, Nat.lt_of_lt_of_le h1 hg.size, hg.cell h2 (by simp; omega)⟩
theorem Rr.skip {w : World} {b K : Nat} {s t x : List UInt8} {c : UInt8} {v : Value} (h : Rr w b s (c :: t) x v) (hK : s.length - (c :: t).length = K) : Rr (w.setCell ⟨b, 1, none⟩ (.int .i64 ((K : Int) + 1))) b s t x v := by
 have hl := h.len; simp only [List.length_cons] at hl hK; exact ⟨h.rk.seti (by omega), (List.suffix_cons c t).trans h.sf⟩
theorem Ab.set1 {w : World} {q : Nat} {n z : List UInt8} (h : Ab w q n z) (y : List UInt8) : Ab (w.setCell ⟨q, 1, none⟩ (.string ⟨y.toArray⟩)) q n y := by
 obtain ⟨h0, h1, h2, h3, h4⟩ := h; refine ⟨by simpa using h0, ?_, ?_, by rw [World.frozen?_setCell]; exact h3, by rw [World.frozen?_setCell]; exact h4⟩
 · rw [World.cell?_setCell_other _ _ _ _ (by simp)]; exact h1
 · rw [World.cell?_setCell_same _ _ _ h2]
theorem attrs_c (b : Nat) (s t x : List UInt8) (v : Value) (w : World) (hR : Rr w b s t x v) (hs : s.length ≤ 1073741824) (hE : ES w) (hbE : 1 < b) :
 Calls Tryz.prog 182 #[.pointer (some ⟨b, 0, none⟩)] w fun e w' => AtEnd w b s x v (atP t []) e w' := by
 obtain ⟨i0, hi, hz0, hz1, hz2⟩ := info_parts Tryz.infoAtr; have hbw := hR.rk.lt; go_enter Tryz.func182, Tryz.ntmps182; go_wp2; go_loopw [3] (fun va wr => ∃ (t' : List UInt8) (out : List Atr), Hid (atP t [] = atP t' out) ∧ AtO wr w.heap.size va out ∧ Rr wr b s t' x v ∧ w.grownBy wr (some b) ∧ out.length + t'.length ≤ s.length) (fun _ wr => s.length - atOf b wr); case atStart => exact ⟨t, [], Lib.hid rfl, World.ownsRow_nil _ _ _ _, hR, gb_refl _ _, by have := hR.len; simpa using this⟩
 case round =>
  obtain ⟨t', out, HA, hO, hRr, hg, hol⟩ := hrel; have hmeas := hRr.meas; have hbr := hRr.rk.lt; have P1 := Lib.hid (pass_r _ wsl do_a1 b s t' x v _ hRr (by omega)); cases hd : t'.dropWhile wsl with
  | nil =>
    have N1 := Lib.hid (fun W h => need_end b s x v W h); rw [hd] at P1; have HN := Lib.hid (atP_nil (out := out) hd); clear hd; go_wp2_with (first | (go_at_call 151; (with_reducible refine P1.out.mono ?_); clear P1; rintro e w1 ⟨rfl, hR1, hg1⟩) | (go_at_call 199; (with_reducible refine (N1.out _ hR1).mono ?_); rintro e w2 ⟨rfl, hq2⟩)); refine ⟨rfl, gb_trans (gb_trans hg hg1) (gb_qt hq2), ?_⟩; rw [HA.out, HN.out]; exact ⟨rfl, _, hR1.of_bl hq2.bl⟩
  | cons c r =>
    rw [hd] at P1; have N1 := Lib.hid (fun W h => need_r b s c r x v W h (by omega)); by_cases hc : c = 62
    · subst hc; have HN := Lib.hid (atP_end (out := out) hd); clear hd; go_wp2_with (first | (go_at_call 151; (with_reducible refine P1.out.mono ?_); clear P1; rintro e w1 ⟨rfl, hR1, hg1⟩) | (go_at_call 199; (with_reducible refine (N1.out _ hR1).mono ?_); rintro e w2 ⟨rfl, hR2, hg2⟩)); go_ret; refine ⟨gb_trans (gb_trans hg hg1) hg2, ?_⟩; rw [HA.out, HN.out]; exact ⟨_, rfl, (hO.of_gb hg1 hbw).of_gb hg2 hbw, hR2⟩
    · have hcn : ((c.toNat : Int) == 62) = false := beq_false_of_ne (fun e => hc (UInt8.toNat_inj.1 (by rw [show (62 : UInt8).toNat = 62 from rfl]; omega))); have hrt : r.length < t'.length := by
       have := dw_len (p := wsl) t'; rw [hd, List.length_cons] at this; omega
      have hsf : (c :: r) <:+ s := hd ▸ (List.dropWhile_suffix wsl).trans hRr.sf; have hdr := sfx_drop hsf; have hln := hsf.length_le; simp only [List.length_cons] at hdr hln; obtain ⟨K, hK⟩ : ∃ K, K = s.length - (r.length + 1) := ⟨_, rfl⟩; rw [← hK] at hdr; have hK1 : s.length - r.length = K + 1 := by omega
      have htw := congrArg List.length (List.takeWhile_append_dropWhile (p := nch) (l := r)); rw [List.length_append] at htw; have hK2 : s.length - (r.dropWhile nch).length = K + 1 + (r.takeWhile nch).length := by omega
      have hnl : K + 1 + (r.takeWhile nch).length ≤ s.length := by omega
      have hsl : List.take (K + 1 + (r.takeWhile nch).length - K) (List.drop K s) = c :: r.takeWhile nch := by
       rw [hdr, show K + 1 + (r.takeWhile nch).length - K = (r.takeWhile nch).length + 1 by omega, List.take_succ_cons, tw_take]
      have hne : b ≠ 1 := Nat.ne_of_gt hbE; have HOL := Lib.hid (fun u a (h : oneAt c r = some (a, u)) => oneAt_len c r a u h); have HATN := Lib.hid (fun h => atP_no (out := out) hd hc h); have HATG := Lib.hid (fun u a h => atP_go (u := u) (a := a) (out := out) hd hc h); have P2 := Lib.hid (fun W h => pass_r _ nch do_a2 b s r x v W h (by omega)); have P3 := Lib.hid (fun W h => pass_r _ wht do_white b s (r.dropWhile nch) x v W h (by omega)); have HH := Lib.hid (fun W h => here_r _ is61 do_a3 b s ((r.dropWhile nch).dropWhile wht) x v W h (by omega)); have FC := Lib.hid (fun W => folded_c (c :: r.takeWhile nch) (by simp only [List.length_cons]; omega) W); rw [← hsl] at FC; have i1 : (0 : Int) ≤ (K : Int) + 1 + ((r.takeWhile nch).length : Int) ∧ (K : Int) + 1 + ((r.takeWhile nch).length : Int) ≤ (s.length : Int) := by omega
      have i2 : (K : Int) ≤ (K : Int) + 1 + ((r.takeWhile nch).length : Int) := by omega
      have i3 : ((K : Int) + 1 + ((r.takeWhile nch).length : Int)).toNat = K + 1 + (r.takeWhile nch).length := by omega
      have HK1 := Lib.hid hK1; have HK2 := Lib.hid hK2; have HN61 := Lib.hid (oneAt_no61 c r); have H61 := Lib.hid (oneAt_61 c r); obtain ⟨n, hn⟩ : ∃ n, n = fold (c :: r.takeWhile nch) := ⟨_, rfl⟩; have hn20 : n.length ≤ s.length := by rw [hn, fold_len, List.length_cons]; omega
      obtain ⟨nm, hnm⟩ : ∃ nm, nm = r.takeWhile nch := ⟨_, rfl⟩; obtain ⟨r2, hr2⟩ : ∃ r2, r2 = (r.dropWhile nch).dropWhile wht := ⟨_, rfl⟩; obtain ⟨r1, hr1⟩ : ∃ r1, r1 = r.dropWhile nch := ⟨_, rfl⟩; have hr2l : r2.length ≤ r.length := by rw [hr2]; exact Nat.le_trans (dw_len _) (dw_len _)
      rw [← hn, ← hr2] at HN61 H61; rw [hsl, ← hn, ← hsl] at FC; rw [← hr2] at P3 HH; rw [← hnm] at P2 HK2 hnl FC i1 i2 i3; rw [← hr1] at P2 P3 HK2; clear hd hc hsf hdr hK htw hK1 hK2 hsl hnm hr1 hr2 hn; by_cases h61 : hd is61 r2 = false
      · rw [h61] at HH; go_upto_region 7 with (first | (go_at_call 151; (with_reducible refine (P1.out).mono ?_); clear P1; rintro e w1 ⟨rfl, hR1, hg1⟩) | (go_at_call 199; (with_reducible refine (N1.out _ hR1).mono ?_); rintro e w2 ⟨rfl, hR2, hg2⟩; obtain ⟨a0, a1, a2, a3, f0, f1, f2, f3⟩ := hR2.rk.cells; rw [HK1.out] at a1) | (go_at_call 151; (with_reducible refine (P2.out _ hR2).mono ?_); clear P2 a0 a1 a2 a3 f0 f1 f2 f3; rintro e w3 ⟨rfl, hR3, hg3⟩; obtain ⟨a0, a1, a2, a3, f0, f1, f2, f3⟩ := hR3.rk.cells; rw [HK2.out] at a1; have hg3' := gb_trans (gb_trans hg1 hg2) hg3; have hb3 := hR3.rk.lt; have hb3n := Nat.ne_of_lt hb3)); go_cut [5] (fun s5 wx => ∃ q : Nat, s5 = .pointer (some ⟨q, 0, none⟩) ∧ wr.heap.size ≤ q ∧ Ab wx q n [] ∧ Rr wx b s r1 x v ∧ wr.grownBy wx (some b)); case first =>
         go_region_with (first | (go_at_call 57; (with_reducible refine (FC.out _).mono ?_); rintro e w4 ⟨rfl, hb4⟩; first | (refine new_kept2 hb4 ?_; intro zl z0 z1 zf0 zf1) | skip)); all_goals
          go_wp2_with fail; go_meet; first | exact meetB hR3 hg3' hb4 | exact meetA hR3 hg3' hb4
        case rest =>
         obtain ⟨q, rfl, hq, hAb, hRc, hgc⟩ := hcut; have hqb : q ≠ b := by omega
         have HON := Lib.hid (HN61.out h61); have hul := HOL.out _ _ HON.out; have HG2 := Lib.hid (HATG.out _ _ HON.out); have NC := Lib.hid (fun W => name_c n (by omega) W); have CC := Lib.hid (fun W h1 h2 => containsF_c _ _ _ _ (do_same n q) out u3 (by omega) W h1 h2); cases hN : isNm n
         · rw [hN] at NC; have HE := Lib.hid (addA_no (out := out) (y := ([] : List UInt8)) hN); clear hN; go_wp2_with (first | (go_at_call 151; (with_reducible refine (P3.out _ hRc).mono ?_); clear P3; rintro e w5 ⟨rfl, hR5, hg5⟩; have hA5 := hAb.of_gb hg5 hqb; have hg5' := gb_trans hgc hg5) | (go_at_call 179; (with_reducible refine (HH.out _ hR5).mono ?_); rintro e w6 ⟨rfl, hq6⟩; have hAt := hA5.of_bl hq6.bl; have hRt := hR5.of_bl hq6.bl; have hgt := gb_trans hg5' (gb_qt (b := some b) hq6); have hAc := hAt; obtain ⟨z0, z1, z2, z3, z4⟩ := hAc; have hOt := hO.of_gb hgt hbw; have hIn : InN n q _ := And.intro z0 z1) | (go_at_call 183; (with_reducible refine (NC.out _).mono ?_); rintro e w7 ⟨rfl, rfl⟩)); go_roundw; case rel => exact ⟨_, out, Lib.hid (by rw [HA.out, HG2.out, HE.out]), hOt, hRt, gb_trans hg hgt, by omega⟩
           case measure => rw [hmeas, hRt.meas]; omega
         · rw [hN] at NC; cases hY : out.any (isN n)
           · rw [hY] at CC; have HE := Lib.hid (addA_new (out := out) (y := ([] : List UInt8)) hN hY); clear hN hY; go_wp2_with (first | (go_at_call 151; (with_reducible refine (P3.out _ hRc).mono ?_); clear P3; rintro e w5 ⟨rfl, hR5, hg5⟩; have hA5 := hAb.of_gb hg5 hqb; have hg5' := gb_trans hgc hg5) | (go_at_call 179; (with_reducible refine (HH.out _ hR5).mono ?_); rintro e w6 ⟨rfl, hq6⟩; have hAt := hA5.of_bl hq6.bl; have hRt := hR5.of_bl hq6.bl; have hgt := gb_trans hg5' (gb_qt (b := some b) hq6); have hAc := hAt; obtain ⟨z0, z1, z2, z3, z4⟩ := hAc; have hOt := hO.of_gb hgt hbw; have hIn : InN n q _ := And.intro z0 z1) | (go_at_call 183; (with_reducible refine (NC.out _).mono ?_); rintro e w7 ⟨rfl, rfl⟩) | (go_at_call 128; (with_reducible refine (CC.out _ hIn hOt.ats).mono ?_); rintro e w8 ⟨rfl, hb8⟩; have hO8 := hOt.of_bl hb8; have hR8 := hRt.of_bl hb8; have hA8 := hAt.of_bl hb8; have hg8 := gb_trans (gb_trans hg hgt) (gb_bl (b := some b) hb8); obtain ⟨y0, y1, y2, y3, y4⟩ := hA8; have hs8 := hg8.size) | (at_builtin; refine wpList_append_own _ rfl _ _ 74 rfl w.heap.size 123 i0 (.agg #[.string ⟨#[]⟩, .string ⟨#[]⟩]) 2 32 Tryz.underlying74 hi hz0 hz1 hz2 rfl (by decide) _ _ _ rfl (World.ownsRow.alloc hO8 _) ⟨w8.heap.size, 0, none⟩ 1 1 [.string ⟨n.toArray⟩, .string ⟨([] : List UInt8).toArray⟩] rfl rfl (new_cells w8 #[.string ⟨n.toArray⟩, .string ⟨([] : List UInt8).toArray⟩] _) (by simp [Value.oneCell']) (by unfold maxLen; omega) (by omega) (by simp; omega) ?_))
             · intro v' wz hown' hgrow _; obtain ⟨m1, m2, m3⟩ := app_meet (a := (n, ([] : List UInt8))) hR8 hO8 hg8 hbw hown' hgrow; clear hown' hgrow; go_wp2; go_roundw; case rel => exact ⟨_, out ++ [(n, ([] : List UInt8))], Lib.hid (by rw [HA.out, HG2.out, HE.out]), m1, m2, m3, by simp; omega⟩
               case measure => rw [hmeas, m2.meas]; omega
           · rw [hY] at CC; have HE := Lib.hid (addA_there (out := out) (y := ([] : List UInt8)) hY); clear hN hY; go_wp2_with (first | (go_at_call 151; (with_reducible refine (P3.out _ hRc).mono ?_); clear P3; rintro e w5 ⟨rfl, hR5, hg5⟩; have hA5 := hAb.of_gb hg5 hqb; have hg5' := gb_trans hgc hg5) | (go_at_call 179; (with_reducible refine (HH.out _ hR5).mono ?_); rintro e w6 ⟨rfl, hq6⟩; have hAt := hA5.of_bl hq6.bl; have hRt := hR5.of_bl hq6.bl; have hgt := gb_trans hg5' (gb_qt (b := some b) hq6); have hAc := hAt; obtain ⟨z0, z1, z2, z3, z4⟩ := hAc; have hOt := hO.of_gb hgt hbw; have hIn : InN n q _ := And.intro z0 z1) | (go_at_call 183; (with_reducible refine (NC.out _).mono ?_); rintro e w7 ⟨rfl, rfl⟩) | (go_at_call 128; (with_reducible refine (CC.out _ hIn hOt.ats).mono ?_); rintro e w8 ⟨rfl, hb8⟩; have hO8 := hOt.of_bl hb8; have hR8 := hRt.of_bl hb8; have hA8 := hAt.of_bl hb8; have hg8 := gb_trans (gb_trans hg hgt) (gb_bl (b := some b) hb8); obtain ⟨y0, y1, y2, y3, y4⟩ := hA8; have hs8 := hg8.size)); go_roundw; case rel => exact ⟨_, out, Lib.hid (by rw [HA.out, HG2.out, HE.out]), hO8, hR8, hg8, by omega⟩
             case measure => rw [hmeas, hR8.meas]; omega
      · skip
        have h61' : hd is61 r2 = true := by simpa using h61
        obtain ⟨s2, rfl, hone⟩ := H61.out h61'; rw [h61'] at HH; have HONE := Lib.hid hone; clear h61 h61' hone HN61 H61; obtain ⟨K2, hK3⟩ : ∃ K2, s.length - (61 :: s2).length = K2 := ⟨_, rfl⟩; have HK3 := Lib.hid hK3; simp only [List.length_cons] at hK3 hr2l; have hK2b : (K2 : Int) + 1 ≤ (s.length : Int) := by omega
        clear hK3; cases hv : valOf s2 with
        | none =>
          have VN := Lib.hid (fun W h => value_no b s s2 x v W h (by omega) hv); have HNO := Lib.hid (HATN.out (by rw [HONE.out, hv])); clear hv; go_upto_region 7 with (first | (go_at_call 151; (with_reducible refine (P1.out).mono ?_); clear P1; rintro e w1 ⟨rfl, hR1, hg1⟩) | (go_at_call 199; (with_reducible refine (N1.out _ hR1).mono ?_); rintro e w2 ⟨rfl, hR2, hg2⟩; obtain ⟨a0, a1, a2, a3, f0, f1, f2, f3⟩ := hR2.rk.cells; rw [HK1.out] at a1) | (go_at_call 151; (with_reducible refine (P2.out _ hR2).mono ?_); clear P2 a0 a1 a2 a3 f0 f1 f2 f3; rintro e w3 ⟨rfl, hR3, hg3⟩; obtain ⟨a0, a1, a2, a3, f0, f1, f2, f3⟩ := hR3.rk.cells; rw [HK2.out] at a1; have hg3' := gb_trans (gb_trans hg1 hg2) hg3; have hb3 := hR3.rk.lt; have hb3n := Nat.ne_of_lt hb3)); go_cut [5] (fun s5 wx => ∃ q : Nat, s5 = .pointer (some ⟨q, 0, none⟩) ∧ wr.heap.size ≤ q ∧ Ab wx q n [] ∧ Rr wx b s r1 x v ∧ wr.grownBy wx (some b)); case first =>
           go_region_with (first | (go_at_call 57; (with_reducible refine (FC.out _).mono ?_); rintro e w4 ⟨rfl, hb4⟩; first | (refine new_kept2 hb4 ?_; intro zl z0 z1 zf0 zf1) | skip)); all_goals
            go_wp2_with fail; go_meet; first | exact meetB hR3 hg3' hb4 | exact meetA hR3 hg3' hb4
          case rest =>
           obtain ⟨q, rfl, hq, hAb, hRc, hgc⟩ := hcut; have hqb : q ≠ b := by omega
           go_wp2_with (first | (go_at_call 151; (with_reducible refine (P3.out _ hRc).mono ?_); clear P3; rintro e w5 ⟨rfl, hR5, hg5⟩; have hA5 := hAb.of_gb hg5 hqb; have hg5' := gb_trans hgc hg5) | (go_at_call 179; (with_reducible refine (HH.out _ hR5).mono ?_); rintro e w6 ⟨rfl, hq6⟩; have hA6 := hA5.of_bl hq6.bl; have hR6 := hR5.of_bl hq6.bl; have hg6 := gb_trans hg5' (gb_qt (b := some b) hq6); obtain ⟨a0, a1, a2, a3, f0, f1, f2, f3⟩ := hR6.rk.cells; rw [HK3.out] at a1; have hR6b := hR6.skip HK3.out; have hg6b := gb_set hg6 1 (.int .i64 ((K2 : Int) + 1)); have hA6b := hA6.of_gb (gb_set (b := b) (gb_refl _ w6) 1 (.int .i64 ((K2 : Int) + 1))) hqb) | (go_at_call 202; (with_reducible refine (VN.out _ hR6b).mono ?_); rintro e w7 ⟨rfl, ⟨tz, hR7⟩, hg7⟩)); refine ⟨rfl, gb_trans hg (gb_trans hg6b hg7), ?_⟩; rw [HA.out, HNO.out]; exact ⟨rfl, _, hR7⟩
        | some au =>
          obtain ⟨a, u⟩ := au; have VY := Lib.hid (fun W h => value_yes b s s2 a u x v W h (by omega) hv); have HON := Lib.hid (show oneAt c r = some ((n, (Tk a).1), u) by rw [HONE.out, hv]); have hal := (valOf_len s2 a u hv).2; have TC := Lib.hid (fun W h => taken_c a (by omega) W h); clear hv; go_upto_region 7 with (first | (go_at_call 151; (with_reducible refine (P1.out).mono ?_); clear P1; rintro e w1 ⟨rfl, hR1, hg1⟩) | (go_at_call 199; (with_reducible refine (N1.out _ hR1).mono ?_); rintro e w2 ⟨rfl, hR2, hg2⟩; obtain ⟨a0, a1, a2, a3, f0, f1, f2, f3⟩ := hR2.rk.cells; rw [HK1.out] at a1) | (go_at_call 151; (with_reducible refine (P2.out _ hR2).mono ?_); clear P2 a0 a1 a2 a3 f0 f1 f2 f3; rintro e w3 ⟨rfl, hR3, hg3⟩; obtain ⟨a0, a1, a2, a3, f0, f1, f2, f3⟩ := hR3.rk.cells; rw [HK2.out] at a1; have hg3' := gb_trans (gb_trans hg1 hg2) hg3; have hb3 := hR3.rk.lt; have hb3n := Nat.ne_of_lt hb3)); go_cut [5] (fun s5 wx => ∃ q : Nat, s5 = .pointer (some ⟨q, 0, none⟩) ∧ wr.heap.size ≤ q ∧ Ab wx q n [] ∧ Rr wx b s r1 x v ∧ wr.grownBy wx (some b)); case first =>
           go_region_with (first | (go_at_call 57; (with_reducible refine (FC.out _).mono ?_); rintro e w4 ⟨rfl, hb4⟩; first | (refine new_kept2 hb4 ?_; intro zl z0 z1 zf0 zf1) | skip)); all_goals
            go_wp2_with fail; go_meet; first | exact meetB hR3 hg3' hb4 | exact meetA hR3 hg3' hb4
          case rest =>
           obtain ⟨q, rfl, hq, hAb, hRc, hgc⟩ := hcut; have hqb : q ≠ b := by omega
           have hul := HOL.out _ _ HON.out; have HG2 := Lib.hid (HATG.out _ _ HON.out); have NC := Lib.hid (fun W => name_c n (by omega) W); have CC := Lib.hid (fun W h1 h2 => containsF_c _ _ _ _ (do_same n q) out u3 (by omega) W h1 h2); cases hN : isNm n
           · rw [hN] at NC; have HE := Lib.hid (addA_no (out := out) (y := (Tk a).1) hN); clear hN; go_wp2_with (first | (go_at_call 151; (with_reducible refine (P3.out _ hRc).mono ?_); clear P3; rintro e w5 ⟨rfl, hR5, hg5⟩; have hA5 := hAb.of_gb hg5 hqb; have hg5' := gb_trans hgc hg5) | (go_at_call 179; (with_reducible refine (HH.out _ hR5).mono ?_); rintro e w6 ⟨rfl, hq6⟩; have hA6 := hA5.of_bl hq6.bl; have hR6 := hR5.of_bl hq6.bl; have hg6 := gb_trans hg5' (gb_qt (b := some b) hq6); obtain ⟨a0, a1, a2, a3, f0, f1, f2, f3⟩ := hR6.rk.cells; rw [HK3.out] at a1; have hR6b := hR6.skip HK3.out; have hg6b := gb_set hg6 1 (.int .i64 ((K2 : Int) + 1)); have hA6b := hA6.of_gb (gb_set (b := b) (gb_refl _ w6) 1 (.int .i64 ((K2 : Int) + 1))) hqb) | (go_at_call 202; (with_reducible refine (VY.out _ hR6b).mono ?_); clear a0 a1 a2 a3 f0 f1 f2 f3; rintro e w7 ⟨rfl, hR7, hg7⟩; have hA7 := hA6b.of_gb hg7 hqb; have hg7' := gb_trans hg6b hg7; have hE7 := hE.of_gb (gb_trans hg hg7') hbE) | (go_at_call 72; (with_reducible refine (TC.out _ hE7).mono ?_); rintro e w8 ⟨rfl, hb8⟩; have hA8 := hA7.of_bl hb8; have hAt := hA8.set1 (Tk a).1; have hRt := (hR7.of_bl hb8).far (q := q) (o := 1) (u := .string ⟨(Tk a).1.toArray⟩) (Ne.symm hqb); have hgt := gb_setnew (gb_trans hg7' (gb_bl (b := some b) hb8)) hq 1 (.string ⟨(Tk a).1.toArray⟩); obtain ⟨x0, x1, x2, x3, x4⟩ := hA8; have hAc := hAt; obtain ⟨z0, z1, z2, z3, z4⟩ := hAc; have hOt := hO.of_gb hgt hbw; have hIn : InN n q _ := And.intro z0 z1) | (go_at_call 183; (with_reducible refine (NC.out _).mono ?_); rintro e w7 ⟨rfl, rfl⟩)); go_roundw; case rel => exact ⟨_, out, Lib.hid (by rw [HA.out, HG2.out, HE.out]), hOt, hRt, gb_trans hg hgt, by omega⟩
             case measure => rw [hmeas, hRt.meas]; omega
           · rw [hN] at NC; cases hY : out.any (isN n)
             · rw [hY] at CC; have HE := Lib.hid (addA_new (out := out) (y := (Tk a).1) hN hY); clear hN hY; go_wp2_with (first | (go_at_call 151; (with_reducible refine (P3.out _ hRc).mono ?_); clear P3; rintro e w5 ⟨rfl, hR5, hg5⟩; have hA5 := hAb.of_gb hg5 hqb; have hg5' := gb_trans hgc hg5) | (go_at_call 179; (with_reducible refine (HH.out _ hR5).mono ?_); rintro e w6 ⟨rfl, hq6⟩; have hA6 := hA5.of_bl hq6.bl; have hR6 := hR5.of_bl hq6.bl; have hg6 := gb_trans hg5' (gb_qt (b := some b) hq6); obtain ⟨a0, a1, a2, a3, f0, f1, f2, f3⟩ := hR6.rk.cells; rw [HK3.out] at a1; have hR6b := hR6.skip HK3.out; have hg6b := gb_set hg6 1 (.int .i64 ((K2 : Int) + 1)); have hA6b := hA6.of_gb (gb_set (b := b) (gb_refl _ w6) 1 (.int .i64 ((K2 : Int) + 1))) hqb) | (go_at_call 202; (with_reducible refine (VY.out _ hR6b).mono ?_); clear a0 a1 a2 a3 f0 f1 f2 f3; rintro e w7 ⟨rfl, hR7, hg7⟩; have hA7 := hA6b.of_gb hg7 hqb; have hg7' := gb_trans hg6b hg7; have hE7 := hE.of_gb (gb_trans hg hg7') hbE) | (go_at_call 72; (with_reducible refine (TC.out _ hE7).mono ?_); rintro e w8 ⟨rfl, hb8⟩; have hA8 := hA7.of_bl hb8; have hAt := hA8.set1 (Tk a).1; have hRt := (hR7.of_bl hb8).far (q := q) (o := 1) (u := .string ⟨(Tk a).1.toArray⟩) (Ne.symm hqb); have hgt := gb_setnew (gb_trans hg7' (gb_bl (b := some b) hb8)) hq 1 (.string ⟨(Tk a).1.toArray⟩); obtain ⟨x0, x1, x2, x3, x4⟩ := hA8; have hAc := hAt; obtain ⟨z0, z1, z2, z3, z4⟩ := hAc; have hOt := hO.of_gb hgt hbw; have hIn : InN n q _ := And.intro z0 z1) | (go_at_call 183; (with_reducible refine (NC.out _).mono ?_); rintro e w7 ⟨rfl, rfl⟩) | (go_at_call 128; (with_reducible refine (CC.out _ hIn hOt.ats).mono ?_); rintro e w8 ⟨rfl, hb8⟩; have hO8 := hOt.of_bl hb8; have hR8 := hRt.of_bl hb8; have hA8 := hAt.of_bl hb8; have hg8 := gb_trans (gb_trans hg hgt) (gb_bl (b := some b) hb8); obtain ⟨y0, y1, y2, y3, y4⟩ := hA8; have hs8 := hg8.size) | (at_builtin; refine wpList_append_own _ rfl _ _ 74 rfl w.heap.size 123 i0 (.agg #[.string ⟨#[]⟩, .string ⟨#[]⟩]) 2 32 Tryz.underlying74 hi hz0 hz1 hz2 rfl (by decide) _ _ _ rfl (World.ownsRow.alloc hO8 _) ⟨w8.heap.size, 0, none⟩ 1 1 [.string ⟨n.toArray⟩, .string ⟨(Tk a).1.toArray⟩] rfl rfl (new_cells w8 #[.string ⟨n.toArray⟩, .string ⟨(Tk a).1.toArray⟩] _) (by simp [Value.oneCell']) (by unfold maxLen; omega) (by omega) (by simp; omega) ?_))
               · intro v' wz hown' hgrow _; obtain ⟨m1, m2, m3⟩ := app_meet (a := (n, (Tk a).1)) hR8 hO8 hg8 hbw hown' hgrow; clear hown' hgrow; go_wp2; go_roundw; case rel => exact ⟨_, out ++ [(n, (Tk a).1)], Lib.hid (by rw [HA.out, HG2.out, HE.out]), m1, m2, m3, by simp; omega⟩
                 case measure => rw [hmeas, m2.meas]; omega
             · rw [hY] at CC; have HE := Lib.hid (addA_there (out := out) (y := (Tk a).1) hY); clear hN hY; go_wp2_with (first | (go_at_call 151; (with_reducible refine (P3.out _ hRc).mono ?_); clear P3; rintro e w5 ⟨rfl, hR5, hg5⟩; have hA5 := hAb.of_gb hg5 hqb; have hg5' := gb_trans hgc hg5) | (go_at_call 179; (with_reducible refine (HH.out _ hR5).mono ?_); rintro e w6 ⟨rfl, hq6⟩; have hA6 := hA5.of_bl hq6.bl; have hR6 := hR5.of_bl hq6.bl; have hg6 := gb_trans hg5' (gb_qt (b := some b) hq6); obtain ⟨a0, a1, a2, a3, f0, f1, f2, f3⟩ := hR6.rk.cells; rw [HK3.out] at a1; have hR6b := hR6.skip HK3.out; have hg6b := gb_set hg6 1 (.int .i64 ((K2 : Int) + 1)); have hA6b := hA6.of_gb (gb_set (b := b) (gb_refl _ w6) 1 (.int .i64 ((K2 : Int) + 1))) hqb) | (go_at_call 202; (with_reducible refine (VY.out _ hR6b).mono ?_); clear a0 a1 a2 a3 f0 f1 f2 f3; rintro e w7 ⟨rfl, hR7, hg7⟩; have hA7 := hA6b.of_gb hg7 hqb; have hg7' := gb_trans hg6b hg7; have hE7 := hE.of_gb (gb_trans hg hg7') hbE) | (go_at_call 72; (with_reducible refine (TC.out _ hE7).mono ?_); rintro e w8 ⟨rfl, hb8⟩; have hA8 := hA7.of_bl hb8; have hAt := hA8.set1 (Tk a).1; have hRt := (hR7.of_bl hb8).far (q := q) (o := 1) (u := .string ⟨(Tk a).1.toArray⟩) (Ne.symm hqb); have hgt := gb_setnew (gb_trans hg7' (gb_bl (b := some b) hb8)) hq 1 (.string ⟨(Tk a).1.toArray⟩); obtain ⟨x0, x1, x2, x3, x4⟩ := hA8; have hAc := hAt; obtain ⟨z0, z1, z2, z3, z4⟩ := hAc; have hOt := hO.of_gb hgt hbw; have hIn : InN n q _ := And.intro z0 z1) | (go_at_call 183; (with_reducible refine (NC.out _).mono ?_); rintro e w7 ⟨rfl, rfl⟩) | (go_at_call 128; (with_reducible refine (CC.out _ hIn hOt.ats).mono ?_); rintro e w8 ⟨rfl, hb8⟩; have hO8 := hOt.of_bl hb8; have hR8 := hRt.of_bl hb8; have hA8 := hAt.of_bl hb8; have hg8 := gb_trans (gb_trans hg hgt) (gb_bl (b := some b) hb8); obtain ⟨y0, y1, y2, y3, y4⟩ := hA8; have hs8 := hg8.size)); go_roundw; case rel => exact ⟨_, out, Lib.hid (by rw [HA.out, HG2.out, HE.out]), hO8, hR8, hg8, by omega⟩
               case measure => rw [hmeas, hR8.meas]; omega
end Go.Proofs.YtamdlihgecpbkaaGreatDoor

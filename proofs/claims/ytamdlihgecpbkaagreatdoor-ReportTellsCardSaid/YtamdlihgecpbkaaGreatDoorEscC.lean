/- Once.Do for strings.Replacer; NewReplacer; the byteStringReplacer that is built. -/
import Derived.Test.YtamdlihgecpbkaaGreatDoorGrpA
import Derived.Laws.NewBlocks
import Derived.Lib.LazyBuf
import Derived.Deep.WholeRow
set_option maxRecDepth 100000
set_option maxHeartbeats 4000000
namespace Go.Proofs.YtamdlihgecpbkaaGreatDoor
open Go.RowKit
theorem do_first (b : Nat) (w : World) (R : World → Prop)
 (h0 : w.cell? ⟨b, 0, none⟩ = some (.int .u32 0)) (h1 : w.cell? ⟨b, 1, none⟩ = some (.int .i32 0))
 (f0 : w.frozen? ⟨b, 0, none⟩ = false) (f1 : w.frozen? ⟨b, 1, none⟩ = false)
 (hB : Calls Tryz.prog 139 #[.pointer (some ⟨b, 0, none⟩)] (w.setCell ⟨b, 1, none⟩ (.int .i32 1)) fun e w' => e = .returned (.tuple #[]) ∧
  w'.cell? ⟨b, 0, none⟩ = some (.int .u32 0) ∧ w'.cell? ⟨b, 1, none⟩ = some (.int .i32 1) ∧ w'.frozen? ⟨b, 0, none⟩ = false ∧ w'.frozen? ⟨b, 1, none⟩ = false ∧ R w') :
 Calls Tryz.prog 138 #[.pointer (some ⟨b, 0, none⟩), .func (.func 139) #[.pointer (some ⟨b, 0, none⟩)] #[]] w fun e w' => e = .returned (.tuple #[]) ∧
  ∃ w1, R w1 ∧ w' = (w1.drew.setCell ⟨b, 0, none⟩ (.int .u32 1)).setCell ⟨b, 1, none⟩ (.int .i32 0) := by
 have hl := run_call_load (P := Tryz.prog) Tryz.func188 (by kernel_rfl) (by kernel_rfl) (by kernel_rfl) .u32 (by kernel_rfl) h0; have hnot : ∀ (x : Bool) (w : World), (Op.unary .not (.bool x)).run Tryz.prog w = .ok (.bool (!x)) w := fun _ _ => rfl
 go_enter Tryz.func138, Tryz.ntmps138; go_wp2_with (first | (go_at_call 173; refine (slow_any b _ R h0 h1 f0 f1 hB).mono ?_; rintro e w2 ⟨rfl, w1, hR, rfl⟩) | (go_at_call 172; go_in)); go_end0; exact ⟨rfl, w1, hR, rfl⟩
def eight : Array Value := #[.string ⟨#[38]⟩, .string ⟨#[38, 97, 109, 112, 59]⟩, .string ⟨#[60]⟩, .string ⟨#[38, 108, 116, 59]⟩, .string ⟨#[62]⟩, .string ⟨#[38, 103, 116, 59]⟩, .string ⟨#[34]⟩, .string ⟨#[38, 113, 117, 111, 116, 59]⟩]
noncomputable def tabv (v : Value) : Array Value := ⟨Tryz.zeroCells211.toList.set 256 v⟩
theorem mk4 (w : World) : (Instr.makeSlice 25 (.int .i64 0) (.int .i64 4)).run Tryz.prog w = .ok (.slice (some ⟨w.heap.size, 0, none⟩) 0 4) (w.alloc (.cells #[.string ⟨#[]⟩, .string ⟨#[]⟩, .string ⟨#[]⟩, .string ⟨#[]⟩] 9)) := by kernel_rfl
theorem sto (w : World) (a : Option Addr) (n m : Nat) : (storeCells ⟨w.heap.size, 0, none⟩ (Tryz.zeroCells211.toList.set 256 (.slice a n m)) 0).run Tryz.prog (w.alloc (.cells Tryz.zeroCells211 211)) = .ok () (w.alloc (.cells (tabv (.slice a n m)) 211)) :=
 run_storeCells_new w 211 Tryz.zeroCells211 (tabv (.slice a n m)) (by kernel_rfl) (by kernel_rfl) (by kernel_rfl)
theorem one_str (x : Int) (W : World) (g : Nat) (h : W.cell? ⟨g, 0, none⟩ = some (.int .u8 x)) : (convert 60 9 (.slice (some ⟨g, 0, none⟩) 1 1)).run Tryz.prog W = .ok (.string ⟨#[UInt8.ofNat x.toNat]⟩) W :=
 run_convert_bytes_arg W 60 5 (by kernel_rfl) (by kernel_rfl) g 0 1 1 [x] rfl (fun i hi => by
  obtain rfl : i = 0 := by omega
  exact h) 9 (by kernel_rfl)
def BA (w : World) (b : Nat) (l : List UInt8) : Prop := ∀ i, (h : i < l.length) → w.cell? ⟨b, i, none⟩ = some (.int .u8 (l[i]'h).toNat)
def brow (l : List UInt8) (cap : Nat) (t : TypeId) : Obj := .cells (bytesRow ⟨l.toArray⟩ cap) t ((bytesRow ⟨l.toArray⟩ cap).size, (bytesRow ⟨l.toArray⟩ cap).size + 1)
theorem BA_brow (w : World) (l : List UInt8) (cap : Nat) (t : TypeId) : BA (w.alloc (brow l cap t)) w.heap.size l := by
 intro i h; unfold brow; rw [World.cell?_alloc_mark, bytesRow]; rw [Array.getElem?_append_left (by simpa using h)]; simp [h]
theorem BA.at {w : World} {l : List UInt8} {cap : Nat} {t : TypeId} {b : Nat} (h : w.heap.size = b) : BA (w.alloc (brow l cap t)) b l := h ▸ BA_brow w l cap t
theorem BA.of_bl {w w' : World} {b : Nat} {l : List UInt8} (h : BA w b l) (hb : Bl w w') (hlt : b < w.heap.size) : BA w' b l := fun i hi => (hb.cells.1 b i hlt).trans (h i hi)
theorem bytes_of (w : World) (l : List UInt8) : (convert 9 60 (.string ⟨l.toArray⟩)).run Tryz.prog w =
 .ok (.slice (some ⟨w.heap.size, 0, none⟩) l.length (grownCap w l.length 0 5)) (w.drew.alloc (brow l (grownCap w l.length 0 5) 5)) :=
 run_bytes_of_string w 9 60 5 ⟨l.toArray⟩ Tryz.underlying9 Tryz.underlying60 Tryz.underlying5
noncomputable def bCap (W : World) (n : Nat) : Nat := grownCap W n 0 5
@[go_sem] theorem bCap_alloc (W : World) (o : Obj) (n : Nat) : bCap (W.alloc o) n = bCap W n := rfl
@[go_sem] theorem bCap_alloc1 (W : World) (o : Obj) (n : Nat) : bCap (W.alloc o).drew n = bCap W.drew n := rfl
@[go_sem] theorem bCap_alloc2 (W : World) (o : Obj) (n : Nat) : bCap (W.alloc o).drew.drew n = bCap W.drew.drew n := rfl
@[go_sem] theorem bCap_alloc3 (W : World) (o : Obj) (n : Nat) : bCap (W.alloc o).drew.drew.drew n = bCap W.drew.drew.drew n := rfl
@[go_sem] theorem brow_at (w : World) (l : List UInt8) (cap : Nat) (t : TypeId) (n i : Nat) (hn : n = w.heap.size) (hi : i < l.length) : (w.alloc (brow l cap t)).cell? ⟨n, i, none⟩ = some (.int .u8 (l[i].toNat : Int)) := by
 subst hn; exact BA_brow w l cap t i hi
theorem of_str (W : World) (l : List UInt8) : (convert 9 60 (.string ⟨l.toArray⟩)).run Tryz.prog W = .ok (.slice (some ⟨W.heap.size, 0, none⟩) l.length (bCap W l.length)) (W.drew.alloc (brow l (bCap W l.length) 5)) := bytes_of W l
theorem tabv_nil (v : Value) (k : Nat) (h : k < 256) : (tabv v)[k]? = some (.slice none 0 0) := by
 have hz : Tryz.zeroCells211.toList.take 256 = List.replicate 256 (.slice none 0 0) := by kernel_rfl
 have : (tabv v)[k]? = (Tryz.zeroCells211.toList.set 256 v)[k]? := by simp [tabv]
 rw [this, List.getElem?_set_ne (by omega)]; have h2 : (Tryz.zeroCells211.toList.take 256)[k]? = Tryz.zeroCells211.toList[k]? := List.getElem?_take_of_lt h; rw [← h2, hz, List.getElem?_replicate, if_pos h]
theorem tabv_last (v : Value) : (tabv v)[256]? = some v := by kernel_rfl
@[go_sem] theorem tabv_size (v : Value) : (tabv v).size = 257 := by kernel_rfl
@[go_sem] theorem tabv_get (v : Value) (k : Nat) (h : k < (tabv v).size) (hk : k < 256) : (tabv v)[k]'h = .slice none 0 0 := by
 have := tabv_nil v k hk; rw [Array.getElem?_eq_getElem h] at this; exact Option.some.inj this
@[go_sem] theorem tabv_get256 (v : Value) (h : 256 < (tabv v).size) : (tabv v)[256]'h = v := by
 have := tabv_last v; rw [Array.getElem?_eq_getElem h] at this; exact Option.some.inj this
structure Bsr (w : World) (p : Nat) : Prop where
 nil : ∀ c : Nat, c < 256 → c ≠ 34 → c ≠ 38 → c ≠ 60 → c ≠ 62 → w.cell? ⟨p, c, none⟩ = some (.slice none 0 0)
 s34 : ∃ g c, g < w.heap.size ∧ w.cell? ⟨p, 34, none⟩ = some (.slice (some ⟨g, 0, none⟩) 6 c) ∧ BA w g [38, 113, 117, 111, 116, 59]
 s38 : ∃ g c, g < w.heap.size ∧ w.cell? ⟨p, 38, none⟩ = some (.slice (some ⟨g, 0, none⟩) 5 c) ∧ BA w g [38, 97, 109, 112, 59]
 s60 : ∃ g c, g < w.heap.size ∧ w.cell? ⟨p, 60, none⟩ = some (.slice (some ⟨g, 0, none⟩) 4 c) ∧ BA w g [38, 108, 116, 59]
 s62 : ∃ g c, g < w.heap.size ∧ w.cell? ⟨p, 62, none⟩ = some (.slice (some ⟨g, 0, none⟩) 4 c) ∧ BA w g [38, 103, 116, 59]
 rep : ∃ r, r < w.heap.size ∧ w.cell? ⟨p, 256, none⟩ = some (.slice (some ⟨r, 0, none⟩) 4 4) ∧ w.cell? ⟨r, 0, none⟩ = some (.string ⟨#[34]⟩) ∧ w.cell? ⟨r, 1, none⟩ = some (.string ⟨#[62]⟩) ∧ w.cell? ⟨r, 2, none⟩ = some (.string ⟨#[60]⟩) ∧ w.cell? ⟨r, 3, none⟩ = some (.string ⟨#[38]⟩)
theorem build_t (b o oc : Nat) (w : World) (_hb : b < w.heap.size) (ho : o < w.heap.size) (hc : w.cell? ⟨b, 4, none⟩ = some (.slice (some ⟨o, 0, none⟩) 8 oc))
 (c0 : w.cell? ⟨o, 0, none⟩ = some (.string ⟨#[38]⟩)) (c1 : w.cell? ⟨o, 1, none⟩ = some (.string ⟨#[38, 97, 109, 112, 59]⟩))
 (c2 : w.cell? ⟨o, 2, none⟩ = some (.string ⟨#[60]⟩)) (c3 : w.cell? ⟨o, 3, none⟩ = some (.string ⟨#[38, 108, 116, 59]⟩))
 (c4 : w.cell? ⟨o, 4, none⟩ = some (.string ⟨#[62]⟩)) (c5 : w.cell? ⟨o, 5, none⟩ = some (.string ⟨#[38, 103, 116, 59]⟩))
 (c6 : w.cell? ⟨o, 6, none⟩ = some (.string ⟨#[34]⟩)) (c7 : w.cell? ⟨o, 7, none⟩ = some (.string ⟨#[38, 113, 117, 111, 116, 59]⟩)) :
 Calls Tryz.prog 174 #[.pointer (some ⟨b, 0, none⟩)] w fun e w' => ∃ p, e = .returned (.iface 212 (.pointer (some ⟨p, 0, none⟩))) ∧ w.heap.size ≤ p ∧ p < w'.heap.size ∧ Bsr w' p ∧ Bl w w' := by
 have hmk := mk4; have heq : ∀ W a n m, (binOp .eql 60 (.slice a n m) (.slice none 0 0)).run Tryz.prog W = .ok (.bool a.isNone) W := fun W a n m => run_eql_slice_nil W _ 5 a n m (by kernel_rfl)
 have hbs := of_str; have hs34 := fun W g h => one_str 34 W g h
 have hs62 := fun W g h => one_str 62 W g h
 have hs60 := fun W g h => one_str 60 W g h
 have hs38 := fun W g h => one_str 38 W g h
 have ho1 : o < w.heap.size + 1 := by omega
 have ho2 : o < w.heap.size + 2 := by omega
 have ho3 : o < w.heap.size + 3 := by omega
 have ho4 : o < w.heap.size + 4 := by omega
 have ho5 : o < w.heap.size + 5 := by omega
 have ho6 : o < w.heap.size + 6 := by omega
 have ho7 : o < w.heap.size + 7 := by omega
 have ho8 : o < w.heap.size + 8 := by omega
 have ho9 : o < w.heap.size + 9 := by omega
 have ho10 : o < w.heap.size + 10 := by omega
 have ho11 : o < w.heap.size + 11 := by omega
 have ho12 : o < w.heap.size + 12 := by omega
 have ho13 : o < w.heap.size + 13 := by omega
 have ho14 : o < w.heap.size + 14 := by omega
 have ho15 : o < w.heap.size + 15 := by omega
 have ho16 : o < w.heap.size + 16 := by omega
 have ho17 : o < w.heap.size + 17 := by omega
 have ho18 : o < w.heap.size + 18 := by omega
 have hst := sto (w.alloc (.cells #[.string ⟨#[]⟩, .string ⟨#[]⟩, .string ⟨#[]⟩, .string ⟨#[]⟩] 9)) (some ⟨w.heap.size, 0, none⟩) 0 4; rw [World.size_alloc] at hst; go_enter Tryz.func174, Tryz.ntmps174; go_wp2; refine wp_loop_rounds 5 ?_; repeat any_goals (rw [rounds_succ]; go_wp2)
 refine wp_loop_rounds 5 ?_; repeat any_goals (rw [rounds_succ]; go_wp2)
 clear hbs hs34 hs38 hs60 hs62 hst hmk heq; go_ret; refine ⟨_, rfl, by omega, by simp, ⟨?_, ?_, ?_, ?_, ?_, ?_⟩, ?_⟩
 · intro c h g34 g38 g60 g62; have e34 : ¬ 34 = c := fun h => g34 h.symm
   have e38 : ¬ 38 = c := fun h => g38 h.symm
   have e60 : ¬ 60 = c := fun h => g60 h.symm
   have e62 : ¬ 62 = c := fun h => g62 h.symm
   go_simp
   have e256 : ¬ 256 = c := by omega
   refine Option.some.inj (Eq.trans (Array.getElem?_eq_getElem _).symm ?_); simp only [Array.getElem?_setIfInBounds_ne, ne_eq, e34, e60, e62, e256, not_false_eq_true]; exact tabv_nil _ c h
 · apply Exists.intro; apply Exists.intro; refine ⟨?_, ?_, ?_⟩
   rotate_left
   · go_simp
     exact ⟨rfl, rfl⟩
   · intro i hi; have hi' : i = 0 ∨ i = 1 ∨ i = 2 ∨ i = 3 ∨ i = 4 ∨ i = 5 := by simp at hi; omega
     rcases hi' with rfl | rfl | rfl | rfl | rfl | rfl <;> go_simp
   · go_simp
 · apply Exists.intro; apply Exists.intro; refine ⟨?_, ?_, ?_⟩
   rotate_left
   · go_simp
     exact ⟨rfl, rfl⟩
   · intro i hi; have hi' : i = 0 ∨ i = 1 ∨ i = 2 ∨ i = 3 ∨ i = 4 := by simp at hi; omega
     rcases hi' with rfl | rfl | rfl | rfl | rfl <;> go_simp
   · go_simp
 · apply Exists.intro; apply Exists.intro; refine ⟨?_, ?_, ?_⟩
   rotate_left
   · go_simp
     exact ⟨rfl, rfl⟩
   · intro i hi; have hi' : i = 0 ∨ i = 1 ∨ i = 2 ∨ i = 3 := by simp at hi; omega
     rcases hi' with rfl | rfl | rfl | rfl <;> go_simp
   · go_simp
 · apply Exists.intro; apply Exists.intro; refine ⟨?_, ?_, ?_⟩
   rotate_left
   · go_simp
     exact ⟨rfl, rfl⟩
   · intro i hi; have hi' : i = 0 ∨ i = 1 ∨ i = 2 ∨ i = 3 := by simp at hi; omega
     rcases hi' with rfl | rfl | rfl | rfl <;> go_simp
   · go_simp
 · refine ⟨w.heap.size, by simp; omega, by go_simp, by go_simp, by go_simp, by go_simp, by go_simp⟩
 · repeat (first | exact Bl.refl _ | assumption | refine Bl.alloc ?_ _ | refine Bl.drew ?_ | refine Bl.drewN ?_ _ | refine Bl.trans ?_ (by assumption))
end Go.Proofs.YtamdlihgecpbkaaGreatDoor

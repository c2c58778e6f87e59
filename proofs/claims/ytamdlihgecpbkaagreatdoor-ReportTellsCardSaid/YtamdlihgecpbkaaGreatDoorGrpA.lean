/- Base of the texts of this seat: imports, the walk's added rules, small words. · Signs that are put: the reference's PutOf; short walks of escape. · sync.Once, sync.Mutex as strings.Replacer uses them: one goroutine (after the kit's worked texts LazyParts, LazySlow). -/
import Derived.Test.YtamdlihgecpbkaaGreatDoorChecked
import Derived.WalkKit
import Derived.WalkSpells
import Derived.WalkLawsBesides
import Derived.Lib.Hide
import Derived.Handy
import Derived.Deep.QuietTactic
import Derived.BigQuiet
import Derived.Tactics
import Derived.Tactics2
import Derived.Defers
import Derived.Laws.Pointers
import Derived.Laws.LoneSync
import Derived.RegionTactic
import Derived.RegionCalls
import Derived.ChangeAlike
set_option maxRecDepth 100000
set_option maxHeartbeats 1600000
namespace Go.Proofs.YtamdlihgecpbkaaGreatDoor
open Go.RowKit
theorem mk_get (l : List UInt8) (k : Nat) (h : k < (ByteArray.mk l.toArray).size) : (ByteArray.mk l.toArray)[k]'h = l[k]'(by simpa [ByteArray.size] using h) := rfl
theorem u8_lt (c : UInt8) : c.toNat < 256 := c.toNat_lt
theorem take_snoc {α : Type} (l : List α) (k : Nat) (h : k < l.length) : l.take (k + 1) = l.take k ++ [l[k]] := by rw [List.take_succ_eq_append_getElem h]
theorem snoc_ind {α : Type} {p : List α → Prop} (h0 : p []) (h1 : ∀ l c, p l → p (l ++ [c])) (l : List α) : p l := by
 suffices h : ∀ l, p (List.reverse l) by have := h l.reverse; simpa using this
 intro l; induction l with
 | nil => exact h0
 | cons c l ih => rw [List.reverse_cons]; exact h1 _ _ ih
theorem ret_int {k : IntKind} {a b : Int} (h : a = b) : Ending.returned (.int k a) = .returned (.int k b) := by rw [h]
theorem ret_bool {a b : Bool} (h : a = b) : Ending.returned (.bool a) = .returned (.bool b) := by rw [h]
theorem quiet_eq {P : Program} {f : FuncId} {args : Array Value} {w : World} {n : Nat} {v : Value}
 (h : Calls P f args (w.drewN n) fun e w' => e = .returned v ∧ w.drewN n = w') : Calls P f args (w.drewN n) fun e w'' => e = .returned v ∧ ∃ m, w'' = w.drewN m :=
 h.mono fun _ _ ⟨he, hm⟩ => ⟨he, n, hm.symm⟩
def Qt (w w' : World) : Prop := ∃ n, w' = w.drewN n
theorem Qt.refl (w : World) : Qt w w := ⟨0, rfl⟩
theorem Qt.drewN {a b : World} (h : Qt a b) (n : Nat) : Qt a (b.drewN n) := by obtain ⟨m, rfl⟩ := h; exact ⟨m + n, by rw [World.drewN_drewN]⟩
theorem quiet_qt {P : Program} {f : FuncId} {args : Array Value} {w : World} {n : Nat} {v : Value}
 (h : Calls P f args (w.drewN n) fun e w' => e = .returned v ∧ Qt (w.drewN n) w') : Calls P f args (w.drewN n) fun e w'' => e = .returned v ∧ ∃ m, w'' = w.drewN m :=
 Calls.quiet_of h
theorem quiet_eq2 {P : Program} {f : FuncId} {args : Array Value} {w : World} {a n : Nat} {v : Value}
 (h : Calls P f args (w.drewN (a + n)) fun e w' => e = .returned v ∧ w.drewN (a + n) = w') : Calls P f args (w.drewN (a + n)) fun e w'' => e = .returned v ∧ ∃ m, w'' = w.drewN (a + m) :=
 h.mono fun _ _ ⟨he, hm⟩ => ⟨he, n, hm.symm⟩
theorem quiet_qt2 {P : Program} {f : FuncId} {args : Array Value} {w : World} {a n : Nat} {v : Value}
 (h : Calls P f args (w.drewN (a + n)) fun e w' => e = .returned v ∧ Qt (w.drewN (a + n)) w') : Calls P f args (w.drewN (a + n)) fun e w'' => e = .returned v ∧ ∃ m, w'' = w.drewN (a + m) :=
 h.mono fun _ _ ⟨he, m, hm⟩ => ⟨he, n + m, by rw [hm, World.drewN_drewN, Nat.add_assoc]⟩
def Bl (w w' : World) : Prop := Below w.heap.size w w'
theorem Bl.refl (w : World) : Bl w w := Below.refl _ _
theorem Bl.trans {a b c : World} (h : Bl a b) (k : Bl b c) : Bl a c := Below.trans h (Below.mono k (Below.size h))
theorem Bl.drewN {a b : World} (h : Bl a b) (n : Nat) : Bl a (b.drewN n) := h.trans (below_drewN (Below.refl _ _) n)
theorem Bl.alloc {a b : World} (h : Bl a b) (o : Obj) : Bl a (b.alloc o) := Below.alloc h (Below.size h) o
class UpC (a b : World) : Prop where
 up : Bl a b
instance (a : World) : UpC a a := ⟨Bl.refl a⟩
instance (a b : World) [h : UpC a b] : UpC a b.drew := ⟨Below.drew h.up⟩
instance (a b : World) (n : Nat) [h : UpC a b] : UpC a (b.drewN n) := ⟨h.up.drewN n⟩
instance (a b : World) (o : Obj) [h : UpC a b] : UpC a (b.alloc o) := ⟨h.up.alloc o⟩
theorem Bl.up {a b c : World} (h : Bl a b) [u : UpC b c] : Bl a c := h.trans u.up
theorem Bl.z {a b : World} [u : UpC a b] : Bl a b := u.up
theorem Qt.bl {a b : World} (h : Qt a b) : Bl a b := by obtain ⟨m, rfl⟩ := h; exact (Bl.refl _).drewN m
theorem Bl.drew {a b : World} (h : Bl a b) : Bl a b.drew := Below.drew h
theorem Bl.cells {W w1 : World} (hb : Bl W w1) : (∀ b o, b < W.heap.size → w1.cell? ⟨b, o, none⟩ = W.cell? ⟨b, o, none⟩) ∧ (∀ b o, b < W.heap.size → w1.frozen? ⟨b, o, none⟩ = W.frozen? ⟨b, o, none⟩) :=
 ⟨fun b o h => Below.cell hb (p := ⟨b, o, none⟩) h, fun b o h => Below.frozen hb (p := ⟨b, o, none⟩) h⟩
theorem take_drop_all {α : Type} (l : List α) (k : Nat) : (l.drop k).take (l.length - k) = l.drop k := List.take_of_length_le (by simp)
attribute [go_sem] Nat.sub_sub take_drop_all List.take_of_length_le mk_get ByteArray.mk_append_mk ByteArray.extract_mk ByteArray.toList_mk
def putc (c : UInt8) : List UInt8 :=
 if (c.toNat : Int) = 38 then [38, 97, 109, 112, 59] else if (c.toNat : Int) = 60 then [38, 108, 116, 59] else if (c.toNat : Int) = 62 then [38, 103, 116, 59] else if (c.toNat : Int) = 34 then [38, 113, 117, 111, 116, 59] else [c]
def PutL (l : List UInt8) : List UInt8 := l.flatMap putc
theorem putc_len (c : UInt8) : (putc c).length ≤ 6 := by
 unfold putc; (repeat' split) <;> simp
theorem PutL_len (l : List UInt8) : (PutL l).length ≤ 6 * l.length := by
 induction l with
 | nil => simp [PutL]
 | cons c l ih => have := putc_len c; simp only [PutL, List.flatMap_cons, List.length_append, List.length_cons] at *; omega
theorem PutL_snoc (l : List UInt8) (c : UInt8) : PutL (l ++ [c]) = PutL l ++ putc c := by simp [PutL]
theorem take_one (l : List UInt8) (k : Nat) (h : k < l.length) : List.take 1 (List.drop k l) = [l[k]] := by
 rw [List.drop_eq_getElem_cons h]; rfl
theorem putOf_c (l : List UInt8) (hl : l.length ≤ 1099511627776) (w : World) :
 Calls Tryz.prog 17 #[.string ⟨l.toArray⟩] w fun e w' => e = .returned (.string ⟨(PutL l).toArray⟩) ∧ w = w' := by
 go_enter Tryz.func17, Tryz.ntmps17; go_wp2; go_loop [3, 4] (fun o i => ∃ k : Nat, k ≤ l.length ∧ o = .string ⟨(PutL (l.take k)).toArray⟩ ∧ i = .int .i64 k) (fun _ i => l.length - (intOf i).toNat); case atStart => exact ⟨0, Nat.zero_le _, rfl, rfl⟩
 case round =>
  obtain ⟨k, hk, rfl, rfl⟩ := hrel; by_cases hlt : k < l.length
  · have hb := u8_lt l[k]; have hP := PutL_len (l.take k); have ht : (l.take k).length ≤ k := List.length_take_le _ _; have HS := Lib.hid (PutL_snoc (l.take k) l[k]); have HT := Lib.hid (take_snoc l k hlt); have hlt1 : k + 1 ≤ l.length := by omega
    have hlt2 : (k : Int) + 1 ≤ l.length := by omega
    go_wp2; all_goals
     go_round; case rel => exact ⟨k + 1, by omega, by rw [HT.out, HS.out]; simp_all [putc, take_one], by go_num⟩
     case measure => simp [intOf]; omega
  · go_wp2; go_ret; exact ⟨by rw [List.take_of_length_le (by omega)]; rfl, rfl⟩
theorem long_c (l : List UInt8) (w : World) :
 Calls Tryz.prog 70 #[.string ⟨l.toArray⟩] w fun e w' => e = .returned (.bool (decide (3000 < l.length))) ∧ w = w' := by
 go_enter Tryz.func70, Tryz.ntmps70; go_wp2; go_ret; exact ⟨ret_bool (by simp <;> omega), rfl⟩
def tooL (l : List UInt8) : Int := if 3000 < l.length then 2 else 0
theorem tooLong_c (l : List UInt8) (w : World) :
 Calls Tryz.prog 9 #[.string ⟨l.toArray⟩] w fun e w' => e = .returned (.int .i64 (tooL l)) ∧ w = w' := by
 go_enter Tryz.func9, Tryz.ntmps9; go_wp2; all_goals
  go_ret; exact ⟨ret_int (by unfold tooL; split <;> omega), rfl⟩
theorem disable (w : World) : (callFunc 223 #[]).run Tryz.prog w = .ok (.value (.tuple #[])) w := run_call_mark0 Tryz.func223 (by kernel_rfl) (by kernel_rfl) (by kernel_rfl) .disable (by kernel_rfl) w
theorem enable (w : World) : (callFunc 225 #[]).run Tryz.prog w = .ok (.value (.tuple #[])) w := run_call_mark0 Tryz.func225 (by kernel_rfl) (by kernel_rfl) (by kernel_rfl) .enable (by kernel_rfl) w
theorem acquire (a : Addr) (w : World) : (callFunc 226 #[.pointer (some a)]).run Tryz.prog w = .ok (.value (.tuple #[])) w := run_call_marked Tryz.func226 (by kernel_rfl) (by kernel_rfl) (by kernel_rfl) .acquire (by kernel_rfl) a w
theorem releaseMerge (a : Addr) (w : World) : (callFunc 228 #[.pointer (some a)]).run Tryz.prog w = .ok (.value (.tuple #[])) w := run_call_marked Tryz.func228 (by kernel_rfl) (by kernel_rfl) (by kernel_rfl) .releaseMerge (by kernel_rfl) a w
theorem store_deferred (a : Addr) (x : Value) (u : FrameMode) (w : World) (hc : w.cell? a = some x) (hz : w.frozen? a = false) :
 CallsD Tryz.prog 191 #[.pointer (some a), .bool true] u w fun e u' w' => u' = u ∧ (e = .returned (.tuple #[]) ∧ w' = w.drew.setCell a (.int .u32 1)) := by
 have hc' : w.drew.cell? a = some x := by go_simp
 have hz' : w.drew.frozen? a = false := by go_simp
 have hst := run_call_store (P := Tryz.prog) Tryz.func206 (by kernel_rfl) (by kernel_rfl) (by kernel_rfl) (by kernel_rfl) (k := .u32) (y := 1) hc' hz'
 go_enter_d Tryz.func191, Tryz.ntmps191
 go_wp2
 go_region_calls
 all_goals (go_end0; exact ⟨rfl, rfl⟩)
theorem unlock_deferred (a : Addr) (u : FrameMode) (w : World) (hc : w.cell? a = some (.int .i32 1)) (hz : w.frozen? a = false) :
 CallsD Tryz.prog 190 #[.pointer (some a)] u w fun e u' w' => u' = u ∧ (e = .returned (.tuple #[]) ∧ w' = w.setCell a (.int .i32 0)) := by
 have hd := disable; have he := enable; have hr := releaseMerge; have hadd := run_call_add (P := Tryz.prog) Tryz.func229 (by kernel_rfl) (by kernel_rfl) (by kernel_rfl) .i32 (by kernel_rfl) (y := -1) (s := 0) hc hz (by simp [go_sem]; rfl); have hcv := run_convert_to_unsafe (P := Tryz.prog) (src := 239) (dst := 171) Tryz.underlying239 Tryz.underlying171 (by kernel_rfl) hc
 go_enter_d Tryz.func190, Tryz.ntmps190
 go_wp2; all_goals try go_end0
 all_goals try go_wp2
 all_goals try go_end0
 all_goals exact ⟨rfl, rfl⟩
theorem lock_free (a : Addr) (w : World) (hc : w.cell? a = some (.int .i32 0)) (hz : w.frozen? a = false) :
 Calls Tryz.prog 189 #[.pointer (some a)] w fun e w' => e = .returned (.tuple #[]) ∧ w' = w.setCell a (.int .i32 1) := by
 have hd := disable; have he := enable; have ha := acquire; have hcas := run_call_cas_hit (P := Tryz.prog) Tryz.func224 (by kernel_rfl) (by kernel_rfl) (by kernel_rfl) .i32 (by kernel_rfl) (y := 1) hc hz; have hc' : (w.setCell a (.int .i32 1)).cell? a = some (.int .i32 1) := World.cell?_setCell_same w a _ hc; have hcv := run_convert_to_unsafe (P := Tryz.prog) (src := 239) (dst := 171) Tryz.underlying239 Tryz.underlying171 (by kernel_rfl) hc'; go_enter Tryz.func189, Tryz.ntmps189; go_wp2; all_goals try (first | go_end0 | (simp only [Exit.inBlock, Exit.then]; refine bodyPost_ret (results_none rfl _ _ _) rfl ?_) | refine bodyPost_ret (results_none rfl _ _ _) rfl ?_)
 all_goals try go_wp2
 all_goals try go_end0
 all_goals exact ⟨rfl, rfl⟩
theorem slow_any (b : Nat) (w : World) (R : World → Prop)
 (h0 : w.cell? ⟨b, 0, none⟩ = some (.int .u32 0)) (h1 : w.cell? ⟨b, 1, none⟩ = some (.int .i32 0))
 (_f0 : w.frozen? ⟨b, 0, none⟩ = false) (f1 : w.frozen? ⟨b, 1, none⟩ = false)
 (hB : Calls Tryz.prog 139 #[.pointer (some ⟨b, 0, none⟩)] (w.setCell ⟨b, 1, none⟩ (.int .i32 1)) fun e w' => e = .returned (.tuple #[]) ∧
  w'.cell? ⟨b, 0, none⟩ = some (.int .u32 0) ∧ w'.cell? ⟨b, 1, none⟩ = some (.int .i32 1) ∧ w'.frozen? ⟨b, 0, none⟩ = false ∧ w'.frozen? ⟨b, 1, none⟩ = false ∧ R w') :
 Calls Tryz.prog 173 #[.pointer (some ⟨b, 0, none⟩), .func (.func 139) #[.pointer (some ⟨b, 0, none⟩)] #[]] w fun e w' => e = .returned (.tuple #[]) ∧
  ∃ w1, R w1 ∧ w' = (w1.drew.setCell ⟨b, 0, none⟩ (.int .u32 1)).setCell ⟨b, 1, none⟩ (.int .i32 0) := by
 have hl := run_call_load (P := Tryz.prog) Tryz.func188 (by kernel_rfl) (by kernel_rfl) (by kernel_rfl) .u32 (by kernel_rfl) (w := w.setCell ⟨b, 1, none⟩ (.int .i32 1)) (a := ⟨b, 0, none⟩) (x := 0) ((World.cell?_setCell_other _ ⟨b, 1, none⟩ ⟨b, 0, none⟩ _ (by simp)).trans h0); have hnot : ∀ (x : Bool) (w : World), (Op.unary .not (.bool x)).run Tryz.prog w = .ok (.bool (!x)) w := fun _ _ => rfl
 go_enter_defers Tryz.func173, Tryz.ntmps173
 go_wp2_with (first | (go_at_call 189; refine (lock_free ⟨b, 1, none⟩ _ (by go_simp) (by go_simp)).mono ?_; rintro e w' ⟨rfl, rfl⟩) | (go_at_call 139; refine hB.mono ?_; rintro e w2 ⟨rfl, g0, g1, k0, k1, hR⟩) | (go_at_call 172; go_in)); all_goals try go_end0
 all_goals try go_wp2
 show Leaves _ _ _ _ _ _ _; refine leaves_cons (f := 191) (args := #[.pointer (some ⟨b, 0, none⟩), .bool true]) (by simp) (by simp [go_sem]) ?_; refine (store_deferred ⟨b, 0, none⟩ (.int .u32 0) .returning _ g0 k0).mono ?_; rintro e u' w'' ⟨rfl, rfl, rfl⟩; refine leaves_cons (f := 190) (args := #[.pointer (some ⟨b, 1, none⟩)]) (by simp [settle]) (by simp [go_sem]) ?_; refine (unlock_deferred ⟨b, 1, none⟩ _ _ ?_ (by simp [k1])).mono ?_
 · refine (World.cell?_setCell_other _ ⟨b, 0, none⟩ ⟨b, 1, none⟩ _ (by simp)).trans ?_; rw [World.cell?_drew]; exact g1
 rintro e u' w'' ⟨rfl, rfl, rfl⟩; simp [Leaves, settle, results, Tryz.results173]; exact ⟨w2, hR, rfl⟩
end Go.Proofs.YtamdlihgecpbkaaGreatDoor

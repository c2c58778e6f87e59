/- Base of the texts of this seat: imports, the walk's added rules, small words. · Signs that are put: the reference's PutOf; short walks of escape. · sync.Once, sync.Mutex as strings.Replacer uses them: one goroutine (after the kit's worked texts LazyParts, LazySlow). · Once.Do for strings.Replacer; NewReplacer; the byteStringReplacer that is built. -/
import Derived.Test.YthnpljkekhieiaaGreatDoorChecked
import Derived.WalkKit
import Derived.WalkSpells
import Derived.WalkLawsBesides
import Derived.Lib.Hide
import Derived.Handy
import Derived.Deep.QuietTactic
import Derived.BigQuiet
import Derived.Tactics
import Derived.Tactics2
import Derived.Defers
import Derived.Laws.Pointers
import Derived.Laws.LoneSync
import Derived.RegionTactic
import Derived.RegionCalls
import Derived.ChangeAlike
import Derived.Laws.NewBlocks
import Derived.Lib.LazyBuf
import Derived.Deep.WholeRow
set_option maxRecDepth 100000
set_option maxHeartbeats 4000000
namespace Go.Proofs.YthnpljkekhieiaaGreatDoor
open Go.RowKit
theorem mk_get (l:List UInt8) (k:Nat) (h:k < (ByteArray.mk l.toArray).size):(ByteArray.mk l.toArray)[k]'h = l[k]'(by simpa [ByteArray.size] using h):=rfl
theorem u8_lt (c:UInt8):c.toNat < 256:=c.toNat_lt
theorem take_snoc {α:Type} (l:List α) (k:Nat) (h:k < l.length):l.take (k + 1) = l.take k ++ [l[k]]:=by rw [List.take_succ_eq_append_getElem h]
theorem snoc_ind {α:Type} {p:List α → Prop} (h0:p []) (h1:∀ l c,p l → p (l ++ [c])) (l:List α):p l:=by
 suffices h:∀ l,p (List.reverse l) by have:=h l.reverse;simpa using this
 intro l;induction l with
 | nil => exact h0
 | cons c l ih => rw [List.reverse_cons];exact h1 _ _ ih
theorem ret_int {k:IntKind} {a b:Int} (h:a = b):Ending.returned (.int k a) = .returned (.int k b):=by rw [h]
theorem ret_bool {a b:Bool} (h:a = b):Ending.returned (.bool a) = .returned (.bool b):=by rw [h]
theorem quiet_eq {P:Program} {f:FuncId} {args:Array Value} {w:World} {n:Nat} {v:Value}
 (h:Calls P f args (w.drewN n) fun e w' => e = .returned v∧w.drewN n = w'):Calls P f args (w.drewN n) fun e w'' => e = .returned v∧∃ m,w'' = w.drewN m :=
 h.mono fun _ _ ⟨he,hm⟩ => ⟨he,n,hm.symm⟩
def Qt (w w':World):Prop:=∃ n,w' = w.drewN n
theorem Qt.refl (w:World):Qt w w:=⟨0,rfl⟩
theorem Qt.drewN {a b:World} (h:Qt a b) (n:Nat):Qt a (b.drewN n):=by obtain ⟨m,rfl⟩:=h;exact ⟨m + n,by rw [World.drewN_drewN]⟩
theorem quiet_qt {P:Program} {f:FuncId} {args:Array Value} {w:World} {n:Nat} {v:Value}
 (h:Calls P f args (w.drewN n) fun e w' => e = .returned v∧Qt (w.drewN n) w'):Calls P f args (w.drewN n) fun e w'' => e = .returned v∧∃ m,w'' = w.drewN m :=
 Calls.quiet_of h
theorem quiet_eq2 {P:Program} {f:FuncId} {args:Array Value} {w:World} {a n:Nat} {v:Value}
 (h:Calls P f args (w.drewN (a + n)) fun e w' => e = .returned v∧w.drewN (a + n) = w'):Calls P f args (w.drewN (a + n)) fun e w'' => e = .returned v∧∃ m,w'' = w.drewN (a + m) :=
 h.mono fun _ _ ⟨he,hm⟩ => ⟨he,n,hm.symm⟩
theorem quiet_qt2 {P:Program} {f:FuncId} {args:Array Value} {w:World} {a n:Nat} {v:Value}
 (h:Calls P f args (w.drewN (a + n)) fun e w' => e = .returned v∧Qt (w.drewN (a + n)) w'):Calls P f args (w.drewN (a + n)) fun e w'' => e = .returned v∧∃ m,w'' = w.drewN (a + m) :=
 h.mono fun _ _ ⟨he,m,hm⟩ => ⟨he,n + m,by rw [hm,World.drewN_drewN,Nat.add_assoc]⟩
def Bl (w w':World):Prop:=Below w.heap.size w w'
theorem Bl.refl (w:World):Bl w w:=Below.refl _ _
theorem Bl.trans {a b c:World} (h:Bl a b) (k:Bl b c):Bl a c:=Below.trans h (Below.mono k (Below.size h))
theorem Bl.drewN {a b:World} (h:Bl a b) (n:Nat):Bl a (b.drewN n):=h.trans (below_drewN (Below.refl _ _) n)
theorem Bl.alloc {a b:World} (h:Bl a b) (o:Obj):Bl a (b.alloc o):=Below.alloc h (Below.size h) o
class UpC (a b:World):Prop where
 up:Bl a b
instance (a:World):UpC a a:=⟨Bl.refl a⟩
instance (a b:World) [h:UpC a b]:UpC a b.drew:=⟨Below.drew h.up⟩
instance (a b:World) (n:Nat) [h:UpC a b]:UpC a (b.drewN n):=⟨h.up.drewN n⟩
instance (a b:World) (o:Obj) [h:UpC a b]:UpC a (b.alloc o):=⟨h.up.alloc o⟩
theorem Bl.up {a b c:World} (h:Bl a b) [u:UpC b c]:Bl a c:=h.trans u.up
theorem Bl.z {a b:World} [u:UpC a b]:Bl a b:=u.up
theorem Qt.bl {a b:World} (h:Qt a b):Bl a b:=by obtain ⟨m,rfl⟩:=h;exact (Bl.refl _).drewN m
theorem Bl.drew {a b:World} (h:Bl a b):Bl a b.drew:=Below.drew h
theorem Bl.cells {W w1:World} (hb:Bl W w1):(∀ b o,b < W.heap.size → w1.cell? ⟨b,o,none⟩ = W.cell? ⟨b,o,none⟩)∧(∀ b o,b < W.heap.size → w1.frozen? ⟨b,o,none⟩ = W.frozen? ⟨b,o,none⟩) :=
 ⟨fun b o h => Below.cell hb (p:=⟨b,o,none⟩) h,fun b o h => Below.frozen hb (p:=⟨b,o,none⟩) h⟩
theorem take_drop_all {α:Type} (l:List α) (k:Nat):(l.drop k).take (l.length - k) = l.drop k:=List.take_of_length_le (by simp)
attribute [go_sem] Nat.sub_sub take_drop_all List.take_of_length_le mk_get ByteArray.mk_append_mk ByteArray.extract_mk ByteArray.toList_mk
def putc (c:UInt8):List UInt8 :=
 if (c.toNat:Int) = 38 then [38,97,109,112,59] else if (c.toNat:Int) = 60 then [38,108,116,59] else if (c.toNat:Int) = 62 then [38,103,116,59] else if (c.toNat:Int) = 34 then [38,113,117,111,116,59] else [c]
def PutL (l:List UInt8):List UInt8:=l.flatMap putc
theorem putc_len (c:UInt8):(putc c).length ≤ 6:=by
 unfold putc; (repeat' split) <;> simp
theorem PutL_len (l:List UInt8):(PutL l).length ≤ 6 * l.length:=by
 induction l with
 | nil => simp [PutL]
 | cons c l ih => have:=putc_len c;simp only [PutL,List.flatMap_cons,List.length_append,List.length_cons] at *;omega
theorem PutL_snoc (l:List UInt8) (c:UInt8):PutL (l ++ [c]) = PutL l ++ putc c:=by simp [PutL]
theorem take_one (l:List UInt8) (k:Nat) (h:k < l.length):List.take 1 (List.drop k l) = [l[k]]:=by
 rw [List.drop_eq_getElem_cons h];rfl
theorem putOf_c (l:List UInt8) (hl:l.length ≤ 1099511627776) (w:World) :
 Calls Tryz.prog 83 #[.string ⟨l.toArray⟩] w fun e w' => e = .returned (.string ⟨(PutL l).toArray⟩)∧w = w':=by
 go_enter Tryz.func83,Tryz.ntmps83;go_wp2;go_loop [3,4] (fun o i => ∃ k:Nat,k ≤ l.length∧o = .string ⟨(PutL (l.take k)).toArray⟩∧i = .int .i64 k) (fun _ i => l.length - (intOf i).toNat);case atStart => exact ⟨0,Nat.zero_le _,rfl,rfl⟩
 case round =>
  obtain ⟨k,hk,rfl,rfl⟩:=hrel;by_cases hlt:k < l.length
  · have hb:=u8_lt l[k];have hP:=PutL_len (l.take k);have ht:(l.take k).length ≤ k:=List.length_take_le _ _;have HS:=Lib.hid (PutL_snoc (l.take k) l[k]);have HT:=Lib.hid (take_snoc l k hlt);have hlt1:k + 1 ≤ l.length:=by omega
    have hlt2:(k:Int) + 1 ≤ l.length:=by omega
    go_wp2;all_goals
     go_round;case rel => exact ⟨k + 1,by omega,by rw [HT.out,HS.out];simp_all [putc,take_one],by go_num⟩
     case measure => simp [intOf];omega
  · go_wp2;go_ret;exact ⟨by rw [List.take_of_length_le (by omega)];rfl,rfl⟩
theorem disable (w:World):(callFunc 216 #[]).run Tryz.prog w = .ok (.value (.tuple #[])) w:=run_call_mark0 Tryz.func216 (by kernel_rfl) (by kernel_rfl) (by kernel_rfl) .disable (by kernel_rfl) w
theorem enable (w:World):(callFunc 218 #[]).run Tryz.prog w = .ok (.value (.tuple #[])) w:=run_call_mark0 Tryz.func218 (by kernel_rfl) (by kernel_rfl) (by kernel_rfl) .enable (by kernel_rfl) w
theorem acquire (a:Addr) (w:World):(callFunc 219 #[.pointer (some a)]).run Tryz.prog w = .ok (.value (.tuple #[])) w:=run_call_marked Tryz.func219 (by kernel_rfl) (by kernel_rfl) (by kernel_rfl) .acquire (by kernel_rfl) a w
theorem releaseMerge (a:Addr) (w:World):(callFunc 221 #[.pointer (some a)]).run Tryz.prog w = .ok (.value (.tuple #[])) w:=run_call_marked Tryz.func221 (by kernel_rfl) (by kernel_rfl) (by kernel_rfl) .releaseMerge (by kernel_rfl) a w
theorem store_deferred (a:Addr) (x:Value) (u:FrameMode) (w:World) (hc:w.cell? a = some x) (hz:w.frozen? a = false) :
 CallsD Tryz.prog 197 #[.pointer (some a),.bool true] u w fun e u' w' => u' = u∧(e = .returned (.tuple #[])∧w' = w.drew.setCell a (.int .u32 1)):=by
 have hc':w.drew.cell? a = some x:=by go_simp
 have hz':w.drew.frozen? a = false:=by go_simp
 have hst:=run_call_store (P:=Tryz.prog) Tryz.func209 (by kernel_rfl) (by kernel_rfl) (by kernel_rfl) (by kernel_rfl) (k:=.u32) (y:=1) hc' hz'
 go_enter_d Tryz.func197,Tryz.ntmps197
 go_wp2
 go_region_calls
 all_goals (go_end0;exact ⟨rfl,rfl⟩)
theorem unlock_deferred (a:Addr) (u:FrameMode) (w:World) (hc:w.cell? a = some (.int .i32 1)) (hz:w.frozen? a = false) :
 CallsD Tryz.prog 196 #[.pointer (some a)] u w fun e u' w' => u' = u∧(e = .returned (.tuple #[])∧w' = w.setCell a (.int .i32 0)):=by
 have hd:=disable;have he:=enable;have hr:=releaseMerge;have hadd:=run_call_add (P:=Tryz.prog) Tryz.func222 (by kernel_rfl) (by kernel_rfl) (by kernel_rfl) .i32 (by kernel_rfl) (y := -1) (s:=0) hc hz (by simp [go_sem];rfl);have hcv:=run_convert_to_unsafe (P:=Tryz.prog) (src:=243) (dst:=169) Tryz.underlying243 Tryz.underlying169 (by kernel_rfl) hc
 go_enter_d Tryz.func196,Tryz.ntmps196
 go_wp2;all_goals try go_end0
 all_goals try go_wp2
 all_goals try go_end0
 all_goals exact ⟨rfl,rfl⟩
theorem lock_free (a:Addr) (w:World) (hc:w.cell? a = some (.int .i32 0)) (hz:w.frozen? a = false) :
 Calls Tryz.prog 195 #[.pointer (some a)] w fun e w' => e = .returned (.tuple #[])∧w' = w.setCell a (.int .i32 1):=by
 have hd:=disable;have he:=enable;have ha:=acquire;have hcas:=run_call_cas_hit (P:=Tryz.prog) Tryz.func217 (by kernel_rfl) (by kernel_rfl) (by kernel_rfl) .i32 (by kernel_rfl) (y:=1) hc hz;have hc':(w.setCell a (.int .i32 1)).cell? a = some (.int .i32 1):=World.cell?_setCell_same w a _ hc;have hcv:=run_convert_to_unsafe (P:=Tryz.prog) (src:=243) (dst:=169) Tryz.underlying243 Tryz.underlying169 (by kernel_rfl) hc';go_enter Tryz.func195,Tryz.ntmps195;go_wp2;all_goals try (first | go_end0 | (simp only [Exit.inBlock,Exit.then];refine bodyPost_ret (results_none rfl _ _ _) rfl ?_) | refine bodyPost_ret (results_none rfl _ _ _) rfl ?_)
 all_goals try go_wp2
 all_goals try go_end0
 all_goals exact ⟨rfl,rfl⟩
theorem slow_any (b:Nat) (w:World) (R:World → Prop)
 (h0:w.cell? ⟨b,0,none⟩ = some (.int .u32 0)) (h1:w.cell? ⟨b,1,none⟩ = some (.int .i32 0))
 (_f0:w.frozen? ⟨b,0,none⟩ = false) (f1:w.frozen? ⟨b,1,none⟩ = false)
 (hB:Calls Tryz.prog 173 #[.pointer (some ⟨b,0,none⟩)] (w.setCell ⟨b,1,none⟩ (.int .i32 1)) fun e w' => e = .returned (.tuple #[]) ∧
  w'.cell? ⟨b,0,none⟩ = some (.int .u32 0)∧w'.cell? ⟨b,1,none⟩ = some (.int .i32 1)∧w'.frozen? ⟨b,0,none⟩ = false∧w'.frozen? ⟨b,1,none⟩ = false∧R w') :
 Calls Tryz.prog 186 #[.pointer (some ⟨b,0,none⟩),.func (.func 173) #[.pointer (some ⟨b,0,none⟩)] #[]] w fun e w' => e = .returned (.tuple #[]) ∧
  ∃ w1,R w1∧w' = (w1.drew.setCell ⟨b,0,none⟩ (.int .u32 1)).setCell ⟨b,1,none⟩ (.int .i32 0):=by
 have hl:=run_call_load (P:=Tryz.prog) Tryz.func194 (by kernel_rfl) (by kernel_rfl) (by kernel_rfl) .u32 (by kernel_rfl) (w:=w.setCell ⟨b,1,none⟩ (.int .i32 1)) (a:=⟨b,0,none⟩) (x:=0) ((World.cell?_setCell_other _ ⟨b,1,none⟩ ⟨b,0,none⟩ _ (by simp)).trans h0);have hnot:∀ (x:Bool) (w:World),(Op.unary .not (.bool x)).run Tryz.prog w = .ok (.bool (!x)) w:=fun _ _ => rfl
 go_enter_defers Tryz.func186,Tryz.ntmps186
 go_wp2_with (first | (go_at_call 195;refine (lock_free ⟨b,1,none⟩ _ (by go_simp) (by go_simp)).mono ?_;rintro e w' ⟨rfl,rfl⟩) | (go_at_call 173;refine hB.mono ?_;rintro e w2 ⟨rfl,g0,g1,k0,k1,hR⟩) | (go_at_call 185;go_in));all_goals try go_end0
 all_goals try go_wp2
 show Leaves _ _ _ _ _ _ _;refine leaves_cons (f:=197) (args:=#[.pointer (some ⟨b,0,none⟩),.bool true]) (by simp) (by simp [go_sem]) ?_;refine (store_deferred ⟨b,0,none⟩ (.int .u32 0) .returning _ g0 k0).mono ?_;rintro e u' w'' ⟨rfl,rfl,rfl⟩;refine leaves_cons (f:=196) (args:=#[.pointer (some ⟨b,1,none⟩)]) (by simp [settle]) (by simp [go_sem]) ?_;refine (unlock_deferred ⟨b,1,none⟩ _ _ ?_ (by simp [k1])).mono ?_
 · refine (World.cell?_setCell_other _ ⟨b,0,none⟩ ⟨b,1,none⟩ _ (by simp)).trans ?_;rw [World.cell?_drew];exact g1
 rintro e u' w'' ⟨rfl,rfl,rfl⟩;simp [Leaves,settle,results,Tryz.results186];exact ⟨w2,hR,rfl⟩
theorem do_first (b:Nat) (w:World) (R:World → Prop)
 (h0:w.cell? ⟨b,0,none⟩ = some (.int .u32 0)) (h1:w.cell? ⟨b,1,none⟩ = some (.int .i32 0))
 (f0:w.frozen? ⟨b,0,none⟩ = false) (f1:w.frozen? ⟨b,1,none⟩ = false)
 (hB:Calls Tryz.prog 173 #[.pointer (some ⟨b,0,none⟩)] (w.setCell ⟨b,1,none⟩ (.int .i32 1)) fun e w' => e = .returned (.tuple #[]) ∧
  w'.cell? ⟨b,0,none⟩ = some (.int .u32 0)∧w'.cell? ⟨b,1,none⟩ = some (.int .i32 1)∧w'.frozen? ⟨b,0,none⟩ = false∧w'.frozen? ⟨b,1,none⟩ = false∧R w') :
 Calls Tryz.prog 172 #[.pointer (some ⟨b,0,none⟩),.func (.func 173) #[.pointer (some ⟨b,0,none⟩)] #[]] w fun e w' => e = .returned (.tuple #[]) ∧
  ∃ w1,R w1∧w' = (w1.drew.setCell ⟨b,0,none⟩ (.int .u32 1)).setCell ⟨b,1,none⟩ (.int .i32 0):=by
 have hl:=run_call_load (P:=Tryz.prog) Tryz.func194 (by kernel_rfl) (by kernel_rfl) (by kernel_rfl) .u32 (by kernel_rfl) h0;have hnot:∀ (x:Bool) (w:World),(Op.unary .not (.bool x)).run Tryz.prog w = .ok (.bool (!x)) w:=fun _ _ => rfl
 go_enter Tryz.func172,Tryz.ntmps172;go_wp2_with (first | (go_at_call 186;refine (slow_any b _ R h0 h1 f0 f1 hB).mono ?_;rintro e w2 ⟨rfl,w1,hR,rfl⟩) | (go_at_call 185;go_in));go_end0;exact ⟨rfl,w1,hR,rfl⟩
def eight:Array Value:=#[.string ⟨#[38]⟩,.string ⟨#[38,97,109,112,59]⟩,.string ⟨#[60]⟩,.string ⟨#[38,108,116,59]⟩,.string ⟨#[62]⟩,.string ⟨#[38,103,116,59]⟩,.string ⟨#[34]⟩,.string ⟨#[38,113,117,111,116,59]⟩]
noncomputable def tabv (v:Value):Array Value:=⟨Tryz.zeroCells218.toList.set 256 v⟩
theorem mk4 (w:World):(Instr.makeSlice 23 (.int .i64 0) (.int .i64 4)).run Tryz.prog w = .ok (.slice (some ⟨w.heap.size,0,none⟩) 0 4) (w.alloc (.cells #[.string ⟨#[]⟩,.string ⟨#[]⟩,.string ⟨#[]⟩,.string ⟨#[]⟩] 9)):=by kernel_rfl
theorem sto (w:World) (a:Option Addr) (n m:Nat):(storeCells ⟨w.heap.size,0,none⟩ (Tryz.zeroCells218.toList.set 256 (.slice a n m)) 0).run Tryz.prog (w.alloc (.cells Tryz.zeroCells218 218)) = .ok () (w.alloc (.cells (tabv (.slice a n m)) 218)) :=
 run_storeCells_new w 218 Tryz.zeroCells218 (tabv (.slice a n m)) (by kernel_rfl) (by kernel_rfl) (by kernel_rfl)
theorem one_str (x:Int) (W:World) (g:Nat) (h:W.cell? ⟨g,0,none⟩ = some (.int .u8 x)):(convert 89 9 (.slice (some ⟨g,0,none⟩) 1 1)).run Tryz.prog W = .ok (.string ⟨#[UInt8.ofNat x.toNat]⟩) W :=
 run_convert_bytes_arg W 89 5 (by kernel_rfl) (by kernel_rfl) g 0 1 1 [x] rfl (fun i hi => by
  obtain rfl:i = 0:=by omega
  exact h) 9 (by kernel_rfl)
def BA (w:World) (b:Nat) (l:List UInt8):Prop:=∀ i,(h:i < l.length) → w.cell? ⟨b,i,none⟩ = some (.int .u8 (l[i]'h).toNat)
def brow (l:List UInt8) (cap:Nat) (t:TypeId):Obj:=.cells (bytesRow ⟨l.toArray⟩ cap) t ((bytesRow ⟨l.toArray⟩ cap).size,(bytesRow ⟨l.toArray⟩ cap).size + 1)
theorem BA_brow (w:World) (l:List UInt8) (cap:Nat) (t:TypeId):BA (w.alloc (brow l cap t)) w.heap.size l:=by
 intro i h;unfold brow;rw [World.cell?_alloc_mark,bytesRow];rw [Array.getElem?_append_left (by simpa using h)];simp [h]
theorem BA.at {w:World} {l:List UInt8} {cap:Nat} {t:TypeId} {b:Nat} (h:w.heap.size = b):BA (w.alloc (brow l cap t)) b l:=h ▸ BA_brow w l cap t
theorem BA.of_bl {w w':World} {b:Nat} {l:List UInt8} (h:BA w b l) (hb:Bl w w') (hlt:b < w.heap.size):BA w' b l:=fun i hi => (hb.cells.1 b i hlt).trans (h i hi)
theorem bytes_of (w:World) (l:List UInt8):(convert 9 89 (.string ⟨l.toArray⟩)).run Tryz.prog w =
 .ok (.slice (some ⟨w.heap.size,0,none⟩) l.length (grownCap w l.length 0 5)) (w.drew.alloc (brow l (grownCap w l.length 0 5) 5)) :=
 run_bytes_of_string w 9 89 5 ⟨l.toArray⟩ Tryz.underlying9 Tryz.underlying89 Tryz.underlying5
noncomputable def bCap (W:World) (n:Nat):Nat:=grownCap W n 0 5
@[go_sem] theorem bCap_alloc (W:World) (o:Obj) (n:Nat):bCap (W.alloc o) n = bCap W n:=rfl
@[go_sem] theorem bCap_alloc1 (W:World) (o:Obj) (n:Nat):bCap (W.alloc o).drew n = bCap W.drew n:=rfl
@[go_sem] theorem bCap_alloc2 (W:World) (o:Obj) (n:Nat):bCap (W.alloc o).drew.drew n = bCap W.drew.drew n:=rfl
@[go_sem] theorem bCap_alloc3 (W:World) (o:Obj) (n:Nat):bCap (W.alloc o).drew.drew.drew n = bCap W.drew.drew.drew n:=rfl
@[go_sem] theorem brow_at (w:World) (l:List UInt8) (cap:Nat) (t:TypeId) (n i:Nat) (hn:n = w.heap.size) (hi:i < l.length):(w.alloc (brow l cap t)).cell? ⟨n,i,none⟩ = some (.int .u8 (l[i].toNat:Int)):=by
 subst hn;exact BA_brow w l cap t i hi
theorem of_str (W:World) (l:List UInt8):(convert 9 89 (.string ⟨l.toArray⟩)).run Tryz.prog W = .ok (.slice (some ⟨W.heap.size,0,none⟩) l.length (bCap W l.length)) (W.drew.alloc (brow l (bCap W l.length) 5)):=bytes_of W l
theorem tabv_nil (v:Value) (k:Nat) (h:k < 256):(tabv v)[k]? = some (.slice none 0 0):=by
 have hz:Tryz.zeroCells218.toList.take 256 = List.replicate 256 (.slice none 0 0):=by kernel_rfl
 have:(tabv v)[k]? = (Tryz.zeroCells218.toList.set 256 v)[k]?:=by simp [tabv]
 rw [this,List.getElem?_set_ne (by omega)];have h2:(Tryz.zeroCells218.toList.take 256)[k]? = Tryz.zeroCells218.toList[k]?:=List.getElem?_take_of_lt h;rw [← h2,hz,List.getElem?_replicate,if_pos h]
theorem tabv_last (v:Value):(tabv v)[256]? = some v:=by kernel_rfl
@[go_sem] theorem tabv_size (v:Value):(tabv v).size = 257:=by kernel_rfl
@[go_sem] theorem tabv_get (v:Value) (k:Nat) (h:k < (tabv v).size) (hk:k < 256):(tabv v)[k]'h = .slice none 0 0:=by
 have:=tabv_nil v k hk;rw [Array.getElem?_eq_getElem h] at this;exact Option.some.inj this
@[go_sem] theorem tabv_get256 (v:Value) (h:256 < (tabv v).size):(tabv v)[256]'h = v:=by
 have:=tabv_last v;rw [Array.getElem?_eq_getElem h] at this;exact Option.some.inj this
structure Bsr (w:World) (p:Nat):Prop where
 nil:∀ c:Nat,c < 256 → c ≠ 34 → c ≠ 38 → c ≠ 60 → c ≠ 62 → w.cell? ⟨p,c,none⟩ = some (.slice none 0 0)
 s34:∃ g c,g < w.heap.size∧w.cell? ⟨p,34,none⟩ = some (.slice (some ⟨g,0,none⟩) 6 c)∧BA w g [38,113,117,111,116,59]
 s38:∃ g c,g < w.heap.size∧w.cell? ⟨p,38,none⟩ = some (.slice (some ⟨g,0,none⟩) 5 c)∧BA w g [38,97,109,112,59]
 s60:∃ g c,g < w.heap.size∧w.cell? ⟨p,60,none⟩ = some (.slice (some ⟨g,0,none⟩) 4 c)∧BA w g [38,108,116,59]
 s62:∃ g c,g < w.heap.size∧w.cell? ⟨p,62,none⟩ = some (.slice (some ⟨g,0,none⟩) 4 c)∧BA w g [38,103,116,59]
 rep:∃ r,r < w.heap.size∧w.cell? ⟨p,256,none⟩ = some (.slice (some ⟨r,0,none⟩) 4 4)∧w.cell? ⟨r,0,none⟩ = some (.string ⟨#[34]⟩)∧w.cell? ⟨r,1,none⟩ = some (.string ⟨#[62]⟩)∧w.cell? ⟨r,2,none⟩ = some (.string ⟨#[60]⟩)∧w.cell? ⟨r,3,none⟩ = some (.string ⟨#[38]⟩)
theorem build_t (b o oc:Nat) (w:World) (_hb:b < w.heap.size) (ho:o < w.heap.size) (hc:w.cell? ⟨b,4,none⟩ = some (.slice (some ⟨o,0,none⟩) 8 oc))
 (c0:w.cell? ⟨o,0,none⟩ = some (.string ⟨#[38]⟩)) (c1:w.cell? ⟨o,1,none⟩ = some (.string ⟨#[38,97,109,112,59]⟩))
 (c2:w.cell? ⟨o,2,none⟩ = some (.string ⟨#[60]⟩)) (c3:w.cell? ⟨o,3,none⟩ = some (.string ⟨#[38,108,116,59]⟩))
 (c4:w.cell? ⟨o,4,none⟩ = some (.string ⟨#[62]⟩)) (c5:w.cell? ⟨o,5,none⟩ = some (.string ⟨#[38,103,116,59]⟩))
 (c6:w.cell? ⟨o,6,none⟩ = some (.string ⟨#[34]⟩)) (c7:w.cell? ⟨o,7,none⟩ = some (.string ⟨#[38,113,117,111,116,59]⟩)) :
 Calls Tryz.prog 187 #[.pointer (some ⟨b,0,none⟩)] w fun e w' => ∃ p,e = .returned (.iface 219 (.pointer (some ⟨p,0,none⟩)))∧w.heap.size ≤ p∧p < w'.heap.size∧Bsr w' p∧Bl w w':=by
 have hmk:=mk4;have heq:∀ W a n m,(binOp .eql 89 (.slice a n m) (.slice none 0 0)).run Tryz.prog W = .ok (.bool a.isNone) W:=fun W a n m => run_eql_slice_nil W _ 5 a n m (by kernel_rfl)
 have hbs:=of_str;have hs34:=fun W g h => one_str 34 W g h
 have hs62:=fun W g h => one_str 62 W g h
 have hs60:=fun W g h => one_str 60 W g h
 have hs38:=fun W g h => one_str 38 W g h
 have ho1:o < w.heap.size + 1:=by omega
 have ho2:o < w.heap.size + 2:=by omega
 have ho3:o < w.heap.size + 3:=by omega
 have ho4:o < w.heap.size + 4:=by omega
 have ho5:o < w.heap.size + 5:=by omega
 have ho6:o < w.heap.size + 6:=by omega
 have ho7:o < w.heap.size + 7:=by omega
 have ho8:o < w.heap.size + 8:=by omega
 have ho9:o < w.heap.size + 9:=by omega
 have ho10:o < w.heap.size + 10:=by omega
 have ho11:o < w.heap.size + 11:=by omega
 have ho12:o < w.heap.size + 12:=by omega
 have ho13:o < w.heap.size + 13:=by omega
 have ho14:o < w.heap.size + 14:=by omega
 have ho15:o < w.heap.size + 15:=by omega
 have ho16:o < w.heap.size + 16:=by omega
 have ho17:o < w.heap.size + 17:=by omega
 have ho18:o < w.heap.size + 18:=by omega
 have hst:=sto (w.alloc (.cells #[.string ⟨#[]⟩,.string ⟨#[]⟩,.string ⟨#[]⟩,.string ⟨#[]⟩] 9)) (some ⟨w.heap.size,0,none⟩) 0 4;rw [World.size_alloc] at hst;go_enter Tryz.func187,Tryz.ntmps187;go_wp2;refine wp_loop_rounds 5 ?_;repeat any_goals (rw [rounds_succ];go_wp2)
 refine wp_loop_rounds 5 ?_;repeat any_goals (rw [rounds_succ];go_wp2)
 clear hbs hs34 hs38 hs60 hs62 hst hmk heq;go_ret;refine ⟨_,rfl,by omega,by simp,⟨?_,?_,?_,?_,?_,?_⟩,?_⟩
 · intro c h g34 g38 g60 g62;have e34:¬ 34 = c:=fun h => g34 h.symm
   have e38:¬ 38 = c:=fun h => g38 h.symm
   have e60:¬ 60 = c:=fun h => g60 h.symm
   have e62:¬ 62 = c:=fun h => g62 h.symm
   go_simp
   have e256:¬ 256 = c:=by omega
   refine Option.some.inj (Eq.trans (Array.getElem?_eq_getElem _).symm ?_);simp only [Array.getElem?_setIfInBounds_ne,ne_eq,e34,e60,e62,e256,not_false_eq_true];exact tabv_nil _ c h
 · apply Exists.intro;apply Exists.intro;refine ⟨?_,?_,?_⟩
   rotate_left
   · go_simp
     exact ⟨rfl,rfl⟩
   · intro i hi;have hi':i = 0 ∨ i = 1 ∨ i = 2 ∨ i = 3 ∨ i = 4 ∨ i = 5:=by simp at hi;omega
     rcases hi' with rfl | rfl | rfl | rfl | rfl | rfl <;> go_simp
   · go_simp
 · apply Exists.intro;apply Exists.intro;refine ⟨?_,?_,?_⟩
   rotate_left
   · go_simp
     exact ⟨rfl,rfl⟩
   · intro i hi;have hi':i = 0 ∨ i = 1 ∨ i = 2 ∨ i = 3 ∨ i = 4:=by simp at hi;omega
     rcases hi' with rfl | rfl | rfl | rfl | rfl <;> go_simp
   · go_simp
 · apply Exists.intro;apply Exists.intro;refine ⟨?_,?_,?_⟩
   rotate_left
   · go_simp
     exact ⟨rfl,rfl⟩
   · intro i hi;have hi':i = 0 ∨ i = 1 ∨ i = 2 ∨ i = 3:=by simp at hi;omega
     rcases hi' with rfl | rfl | rfl | rfl <;> go_simp
   · go_simp
 · apply Exists.intro;apply Exists.intro;refine ⟨?_,?_,?_⟩
   rotate_left
   · go_simp
     exact ⟨rfl,rfl⟩
   · intro i hi;have hi':i = 0 ∨ i = 1 ∨ i = 2 ∨ i = 3:=by simp at hi;omega
     rcases hi' with rfl | rfl | rfl | rfl <;> go_simp
   · go_simp
 · refine ⟨w.heap.size,by simp;omega,by go_simp,by go_simp,by go_simp,by go_simp,by go_simp⟩
 · repeat (first | exact Bl.refl _ | assumption | refine Bl.alloc ?_ _ | refine Bl.drew ?_ | refine Bl.drewN ?_ _ | refine Bl.trans ?_ (by assumption))
end Go.Proofs.YthnpljkekhieiaaGreatDoor

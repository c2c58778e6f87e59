/- Tokens: the closures that tell kinds of bytes; need, begins, letterAt, to, Folded. -/
import Derived.Test.YthnpljkekhieiaaGreatDoorGrpD
set_option maxHeartbeats 1000000
namespace Go.Proofs.YthnpljkekhieiaaGreatDoor
open Go.RowKit
def is61 (c:UInt8):Bool:=decide (c.toNat = 61)
def not60 (c:UInt8):Bool:=decide (c.toNat ≠ 60)
def isq (c:UInt8):Bool:=decide (c.toNat = 34) || decide (c.toNat = 39)
def Tr:World → Prop:=fun _ => True
theorem cf_white:∀ (args:Array Value) (W:World),Sem.run Tryz.prog (callFunc 164 args) W = .ok (.enter 164 args) W:=by
 intro args W;simp [callFunc,go_sem,Tryz.func164,Tryz.f164]
theorem do_white:Do 164 #[] wht Tr:=⟨cf_white,fun c W _ => (white_c c W).mono fun _ _ ⟨h,hw⟩ => ⟨h,hw ▸ Qt.refl _⟩,fun _ _ _ _ => trivial⟩
theorem cf_a1:∀ (args:Array Value) (W:World),Sem.run Tryz.prog (callFunc 176 args) W = .ok (.enter 176 args) W:=by
 intro args W;simp [callFunc,go_sem,Tryz.func176,Tryz.f176]
theorem clo_a1 (c:UInt8) (w:World):Calls Tryz.prog 176 #[.int .u8 (c.toNat:Int)] w fun e w' => e = .returned (.bool (wsl c))∧w = w':=by
 cases hW:wht c;all_goals
  have WC:=white_c c;rw [hW] at WC;have HW:=Lib.hid hW;have HC:=Lib.hid WC;clear hW WC;go_enter Tryz.func176,Tryz.ntmps176;go_wp2_with (go_at_call 164;refine (HC.out _).mono ?_;rintro e w' ⟨rfl,rfl⟩);all_goals
   go_ret;exact ⟨ret_bool (by rw [Bool.eq_iff_iff];simp [wsl,HW.out] <;> omega),rfl⟩
theorem do_a1:Do 176 #[] wsl Tr:=⟨cf_a1,fun c W _ => (clo_a1 c W).mono fun _ _ ⟨h,hw⟩ => ⟨h,hw ▸ Qt.refl _⟩,fun _ _ _ _ => trivial⟩
theorem cf_a2:∀ (args:Array Value) (W:World),Sem.run Tryz.prog (callFunc 178 args) W = .ok (.enter 178 args) W:=by
 intro args W;simp [callFunc,go_sem,Tryz.func178,Tryz.f178]
theorem clo_a2 (c:UInt8) (w:World):Calls Tryz.prog 178 #[.int .u8 (c.toNat:Int)] w fun e w' => e = .returned (.bool (nch c))∧w = w':=by
 cases hW:wht c;all_goals
  have WC:=white_c c;rw [hW] at WC;have HW:=Lib.hid hW;have HC:=Lib.hid WC;clear hW WC;go_enter Tryz.func178,Tryz.ntmps178;go_wp2_with (go_at_call 164;refine (HC.out _).mono ?_;rintro e w' ⟨rfl,rfl⟩);all_goals
   go_ret;exact ⟨ret_bool (by rw [Bool.eq_iff_iff];simp [nch,HW.out] <;> omega),rfl⟩
theorem do_a2:Do 178 #[] nch Tr:=⟨cf_a2,fun c W _ => (clo_a2 c W).mono fun _ _ ⟨h,hw⟩ => ⟨h,hw ▸ Qt.refl _⟩,fun _ _ _ _ => trivial⟩
theorem cf_a3:∀ (args:Array Value) (W:World),Sem.run Tryz.prog (callFunc 179 args) W = .ok (.enter 179 args) W:=by
 intro args W;simp [callFunc,go_sem,Tryz.func179,Tryz.f179]
theorem clo_a3 (c:UInt8) (w:World):Calls Tryz.prog 179 #[.int .u8 (c.toNat:Int)] w fun e w' => e = .returned (.bool (is61 c))∧w = w':=by
 go_enter Tryz.func179,Tryz.ntmps179;go_wp2;all_goals
  go_ret;exact ⟨ret_bool (by rw [Bool.eq_iff_iff];simp [is61] <;> omega),rfl⟩
theorem do_a3:Do 179 #[] is61 Tr:=⟨cf_a3,fun c W _ => (clo_a3 c W).mono fun _ _ ⟨h,hw⟩ => ⟨h,hw ▸ Qt.refl _⟩,fun _ _ _ _ => trivial⟩
theorem cf_t1:∀ (args:Array Value) (W:World),Sem.run Tryz.prog (callFunc 163 args) W = .ok (.enter 163 args) W:=by
 intro args W;simp [callFunc,go_sem,Tryz.func163,Tryz.f163]
theorem clo_t1 (c:UInt8) (w:World):Calls Tryz.prog 163 #[.int .u8 (c.toNat:Int)] w fun e w' => e = .returned (.bool (tch c))∧w = w':=by
 cases hW:wht c;all_goals
  have WC:=white_c c;rw [hW] at WC;have HW:=Lib.hid hW;have HC:=Lib.hid WC;clear hW WC;go_enter Tryz.func163,Tryz.ntmps163;go_wp2_with (go_at_call 164;refine (HC.out _).mono ?_;rintro e w' ⟨rfl,rfl⟩);all_goals
   go_ret;exact ⟨ret_bool (by rw [Bool.eq_iff_iff];simp [tch,HW.out] <;> omega),rfl⟩
theorem do_t1:Do 163 #[] tch Tr:=⟨cf_t1,fun c W _ => (clo_t1 c W).mono fun _ _ ⟨h,hw⟩ => ⟨h,hw ▸ Qt.refl _⟩,fun _ _ _ _ => trivial⟩
theorem cf_s1:∀ (args:Array Value) (W:World),Sem.run Tryz.prog (callFunc 146 args) W = .ok (.enter 146 args) W:=by
 intro args W;simp [callFunc,go_sem,Tryz.func146,Tryz.f146]
theorem clo_s1 (c:UInt8) (w:World):Calls Tryz.prog 146 #[.int .u8 (c.toNat:Int)] w fun e w' => e = .returned (.bool (not60 c))∧w = w':=by
 go_enter Tryz.func146,Tryz.ntmps146;go_wp2;all_goals
  go_ret;exact ⟨ret_bool (by rw [Bool.eq_iff_iff];simp [not60] <;> omega),rfl⟩
theorem do_s1:Do 146 #[] not60 Tr:=⟨cf_s1,fun c W _ => (clo_s1 c W).mono fun _ _ ⟨h,hw⟩ => ⟨h,hw ▸ Qt.refl _⟩,fun _ _ _ _ => trivial⟩
theorem cf_v1:∀ (args:Array Value) (W:World),Sem.run Tryz.prog (callFunc 188 args) W = .ok (.enter 188 args) W:=by
 intro args W;simp [callFunc,go_sem,Tryz.func188,Tryz.f188]
theorem clo_v1 (c:UInt8) (w:World):Calls Tryz.prog 188 #[.int .u8 (c.toNat:Int)] w fun e w' => e = .returned (.bool (isq c))∧w = w':=by
 go_enter Tryz.func188,Tryz.ntmps188;go_wp2;all_goals
  go_ret;exact ⟨ret_bool (by rw [Bool.eq_iff_iff];simp [isq] <;> omega),rfl⟩
theorem do_v1:Do 188 #[] isq Tr:=⟨cf_v1,fun c W _ => (clo_v1 c W).mono fun _ _ ⟨h,hw⟩ => ⟨h,hw ▸ Qt.refl _⟩,fun _ _ _ _ => trivial⟩
theorem cf_v3:∀ (args:Array Value) (W:World),Sem.run Tryz.prog (callFunc 190 args) W = .ok (.enter 190 args) W:=by
 intro args W;simp [callFunc,go_sem,Tryz.func190,Tryz.f190]
theorem clo_v3 (c:UInt8) (w:World):Calls Tryz.prog 190 #[.int .u8 (c.toNat:Int)] w fun e w' => e = .returned (.bool (vch c))∧w = w':=by
 cases hW:wht c;all_goals
  have WC:=white_c c;rw [hW] at WC;have HW:=Lib.hid hW;have HC:=Lib.hid WC;clear hW WC;go_enter Tryz.func190,Tryz.ntmps190;go_wp2_with (go_at_call 164;refine (HC.out _).mono ?_;rintro e w' ⟨rfl,rfl⟩);all_goals
   go_ret;exact ⟨ret_bool (by rw [Bool.eq_iff_iff];simp [vch,HW.out] <;> omega),rfl⟩
theorem do_v3:Do 190 #[] vch Tr:=⟨cf_v3,fun c W _ => (clo_v3 c W).mono fun _ _ ⟨h,hw⟩ => ⟨h,hw ▸ Qt.refl _⟩,fun _ _ _ _ => trivial⟩
theorem Tr2 (b:Nat):∀ W u,Tr W → Tr (W.setCell ⟨b,1,none⟩ u):=fun _ _ _ => trivial
def OPN:List PanicEntry:=[{ v:=.iface 149 (.agg #[]),recovered:=false }]
theorem need_no (b:Nat) (s x:List UInt8) (v:Value) (w:World) (hR:Rk w b s s.length x v) :
 Calls Tryz.prog 177 #[.pointer (some ⟨b,0,none⟩)] w fun e w' => e = .panicked OPN∧Qt w w':=by
 obtain ⟨c0,c1,c2,c3,f0,f1,f2,f3⟩:=hR.cells;clear hR;go_enter Tryz.func177,Tryz.ntmps177;go_wp2_with (go_quiet (fail));exact ⟨rfl,rfl,(Qt.refl _).drewN _⟩
theorem need_yes (b k:Nat) (s x:List UInt8) (v:Value) (w:World) (hR:Rk w b s k x v) (hk:k < s.length) (hs:s.length ≤ 1099511627776) :
 Calls Tryz.prog 177 #[.pointer (some ⟨b,0,none⟩)] w fun e w' => e = .returned (.int .u8 (s[k].toNat:Int))∧Rk w' b s (k + 1) x v∧w.grownBy w' (some b):=by
 obtain ⟨c0,c1,c2,c3,f0,f1,f2,f3⟩:=hR.cells;have hne:((k:Int) == (s.length:Int)) = false:=by simp;omega
 have hk':(k:Int) < (s.length:Int):=by omega
 go_enter Tryz.func177,Tryz.ntmps177;go_wp2_with (go_quiet (fail));go_ret;exact ⟨rfl,(((hR.of_bl ((Bl.refl _).drewN _)).seti (by omega)).of_bl ((Bl.refl _).drewN _)),gb_drewN (gb_set (gb_drewN (gb_refl _ _) _) _ _) _⟩
end Go.Proofs.YthnpljkekhieiaaGreatDoor

/- Signs that are taken: the program's walk. · sign and Taken of the program. · Signs that are taken: the reference. · Tokens: the reader's small steps. -/
import Derived.Test.YthnpljkekhieiaaGreatDoorGrpC
import Derived.Laws.Runes
set_option maxRecDepth 100000
set_option maxHeartbeats 4000000
namespace Go.Proofs.YthnpljkekhieiaaGreatDoor
open Go.RowKit
theorem hasPrefix_c (t p:List UInt8) (w:World):Calls Tryz.prog 159 #[.string ⟨t.toArray⟩,.string ⟨p.toArray⟩] w fun e w' => e = .returned (.bool (pre p t))∧w = w' :=
 (Tryz.strings_HasPrefix ⟨t.toArray⟩ ⟨p.toArray⟩ w).mono fun _ _ ⟨he,hw⟩ => ⟨he,hw.symm⟩
theorem named_c (t:List UInt8) (w:World) :
 Calls Tryz.prog 169 #[.string ⟨t.toArray⟩] w fun e w' => e = .returned (.tuple #[.string ⟨(nmd t).1.toArray⟩,.int .i64 (nmd t).2])∧Bl w w':=by
 have h1:=fun p W => hasPrefix_c t p W
 have H1:=Lib.hid h1;clear h1;go_enter Tryz.func169,Tryz.ntmps169;go_wp2;refine wp_loop_rounds 6 ?_;repeat any_goals (rw [rounds_succ];go_wp2_with (first | (go_at_call 159;refine (H1.out _ _).mono ?_;rintro e w' ⟨rfl,rfl⟩) | go_quiet (fail)))
 all_goals
  go_ret2;exact ⟨by simp [nmd,nAmp,nLt,nGt,nQuot,nApos, *],by repeat (first | exact Bl.refl _ | refine Bl.drewN ?_ _ | refine Bl.drew ?_ | refine Bl.alloc ?_ _)⟩
theorem scalar_c (n:Int) (w:World) :
 Calls Tryz.prog 171 #[.int .i64 n] w fun e w' => e = .returned (.bool (scl n))∧w = w':=by
 go_enter Tryz.func171,Tryz.ntmps171;go_wp2;all_goals
  go_ret;exact ⟨ret_bool (by simp [scl, *] <;> omega),rfl⟩
def ES (w:World):Prop:=∃ te pe,1 < w.heap.size∧w.cell? ⟨1,0,none⟩ = some (.iface te pe)
theorem ES.of_bl {w w':World} (h:ES w) (hb:Bl w w'):ES w':=by
 obtain ⟨te,pe,h1,h2⟩:=h;exact ⟨te,pe,Nat.lt_of_lt_of_le h1 (Below.size hb),(hb.cells.1 1 0 h1).trans h2⟩
theorem iparse_c (b bits:Int) (l:List UInt8) (hb:b = 10 ∨ b = 16) (hx:bits = 8∧l.length ≤ 1 ∨ bits = 32∧l.length ≤ 7) (hne:0 < l.length) (w:World) :
 Calls Tryz.prog 192 #[.string ⟨l.toArray⟩,.int .i64 b,.int .i64 bits] w fun e w' => e = .returned (IP b l)∧Bl w w':=by
 rcases hb with rfl | rfl
 · exact iparse10 bits l hx hne w
 · exact iparse16 bits l hx hne w
theorem pu_yes (b bits:Int) (l:List UInt8) (hb:b = 10 ∨ b = 16) (hx:bits = 8∧l.length ≤ 1 ∨ bits = 32∧l.length ≤ 7) (hne:0 < l.length) (hd:l.all (dig b) = true) (w:World) :
 Calls Tryz.prog 184 #[.string ⟨l.toArray⟩,.int .i64 b,.int .i64 bits] w fun e w' => e = .returned (.tuple #[.int .u64 (Nv b l),.nilIface])∧Bl w w':=by
 have h:=fun W => iparse_c b bits l hb hx hne W
 rw [IP_yes hd] at h;have H:=Lib.hid h;clear h hd hb hx;go_enter Tryz.func184,Tryz.ntmps184;go_wp2_with (go_at_call 192; (with_reducible refine (H.out _).mono ?_);rintro e w' ⟨rfl,hb'⟩);go_ret2;exact ⟨rfl,hb'⟩
theorem pu_no (b bits:Int) (l:List UInt8) (hb:b = 10 ∨ b = 16) (hx:bits = 8∧l.length ≤ 1 ∨ bits = 32∧l.length ≤ 7) (hne:0 < l.length) (hd:l.all (dig b) = false) (w:World) (hE:ES w) :
 Calls Tryz.prog 184 #[.string ⟨l.toArray⟩,.int .i64 b,.int .i64 bits] w fun e w' => ∃ N,e = .returned (.tuple #[.int .u64 0,.iface 223 (.pointer (some ⟨N,0,none⟩))])∧Bl w w':=by
 have h:=fun W => iparse_c b bits l hb hx hne W
 rw [IP_no hd] at h;have H:=Lib.hid h;have hlim:l.length ≤ 281474976710656:=by omega
 clear h hd hb hx;go_enter Tryz.func184,Tryz.ntmps184;go_wp2_with (first | (go_at_call 192; (with_reducible refine (H.out _).mono ?_);rintro e w' ⟨rfl,hb'⟩;obtain ⟨te,pe,h1,h2⟩:=hE.of_bl hb'; have H2:=Lib.hid h2;clear h2) | (go_at_call 193;refine (Tryz.strconv_toError_syntax _ _ _ _ (.iface te pe) _ (by simpa [ByteArray.size] using hlim) H2.out (Or.inr ⟨te,pe,rfl⟩)).mono ?_;rintro e w'' ⟨N,rfl,-,-,hb''⟩));go_ret2;exact ⟨N,rfl,hb'.trans hb''⟩
theorem ndg_stop (b:Int) (r:List UInt8):∀ k:Nat,k ≤ r.length → (r.take k).all (dig b) = true → (∀ h:k < r.length,dig b r[k] = false) → ndg b r = k:=by
 unfold ndg;induction r with
 | nil => intro k hk _ _;simp at hk;subst hk;rfl
 | cons c r ih =>
   intro k hk ha hs;cases k with
   | zero =>
     have:=hs (by simp);simp only [List.getElem_cons_zero] at this;simp [this]
   | succ k =>
     simp only [List.take_succ_cons,List.all_cons,Bool.and_eq_true] at ha;rw [List.takeWhile_cons,if_pos ha.1,List.length_cons,ih k (by simpa using hk) ha.2 (fun h => by have:=hs (by simpa using h);simpa using this)]
theorem digits_c (b:Int) (r:List UInt8) (hb:b = 10 ∨ b = 16) (hl:r.length ≤ 4611686018427387904) (w:World) (hE:ES w) :
 Calls Tryz.prog 183 #[.string ⟨r.toArray⟩,.int .i64 b] w fun e w' => e = .returned (.int .i64 (ndg b r))∧Bl w w':=by
 have HB:=Lib.hid hb;clear hb;go_enter Tryz.func183,Tryz.ntmps183;go_wp2;go_loopw [10] (fun i wr => ∃ k:Nat,k ≤ r.length∧i = .int .i64 k∧(r.take k).all (dig b) = true∧Bl w wr) (fun i _ => r.length - (intOf i).toNat);case atStart => exact ⟨0,Nat.zero_le _,rfl,rfl,Bl.refl _⟩
 case round =>
  obtain ⟨k,hk,rfl,ha,hbl⟩:=hrel;by_cases hlt:k < r.length
  · have HT:=Lib.hid (take_snoc r k hlt);have H1:=Lib.hid (take_one r k hlt);have HA:=Lib.hid ha;have HE:=Lib.hid (hE.of_bl hbl);have hlt2:(k:Int) + 1 ≤ r.length:=by omega
    have hlt3:k + 1 ≤ r.length:=by omega
    have HST:=Lib.hid (ndg_stop b r k hk ha);clear ha;cases hd:dig b r[k]
    · have HD:=Lib.hid hd;have HP:=Lib.hid (fun W hW => pu_no b 8 (List.take 1 (List.drop k r)) HB.out (Or.inl ⟨rfl,by rw [H1.out];simp⟩) (by rw [H1.out];simp) (by rw [H1.out];simp [HD.out]) W hW);clear hd;go_wp2_with (go_at_call 184; (with_reducible refine (HP.out _ HE.out).mono ?_);rintro e w' ⟨N,rfl,hb'⟩);go_ret;exact ⟨ret_int (by rw [HST.out (fun _ => HD.out)]),hbl.trans hb'⟩
    · have HD:=Lib.hid hd;have HP:=Lib.hid (fun W => pu_yes b 8 (List.take 1 (List.drop k r)) HB.out (Or.inl ⟨rfl,by rw [H1.out];simp⟩) (by rw [H1.out];simp) (by rw [H1.out];simp [HD.out]) W);clear hd;go_wp2_with (go_at_call 184; (with_reducible refine (HP.out _).mono ?_);rintro e w' ⟨rfl,hb'⟩);go_roundw;case rel => exact ⟨k + 1,by omega,by go_num,by rw [HT.out,all_snoc,HA.out,HD.out];rfl,hbl.trans hb'⟩
      case measure => simp [intOf];omega
  · have HST:=Lib.hid (ndg_stop b r k hk ha (fun h => absurd h hlt));clear ha;have hkl:k = r.length:=by omega
    have HK:=Lib.hid hkl;clear hkl;go_wp2;go_ret;exact ⟨ret_int (by rw [HST.out,HK.out]),hbl⟩
theorem numbered_c (t:List UInt8) (hl:t.length ≤ 4611686018427387904) (w:World) (hE:ES w) :
 Calls Tryz.prog 170 #[.string ⟨t.toArray⟩] w fun e w' => e = .returned (.tuple #[.int .i64 (nbr t).1,.int .i64 (nbr t).2])∧Bl w w':=by
 have hP:=fun p W => hasPrefix_c t p W
 have HP:=Lib.hid hP;clear hP;cases h1:pre [38,35,120] t
 · cases h2:pre [38,35] t
   · have HN:=Lib.hid (show nbr t = (0,0) by unfold nbr;rw [h1,h2];rfl);go_enter Tryz.func170,Tryz.ntmps170;go_wp2_with (go_at_call 159;refine (HP.out _ _).mono ?_;rintro e w' ⟨rfl,rfl⟩);go_ret2;exact ⟨by rw [HN.out];rfl,Bl.refl _⟩
   · have hpl:=pre_len h2;simp only [List.length_cons,List.length_nil] at hpl;have hf:(2:Int) ≤ t.length:=by omega
     have hf2:2 ≤ t.length:=by omega
     have HN:=Lib.hid (show nbr t = nbF 10 2 7 (t.drop 2) by unfold nbr;rw [h1,h2];rfl);have hdl:=ndg_le 10 (t.drop 2);have hall:=ndg_all 10 (t.drop 2);have cD:=fun W hW => digits_c 10 (t.drop 2) (by omega) (by simp;omega) W hW
     obtain ⟨d,hd⟩:∃ d,d = ndg 10 (t.drop 2):=⟨_,rfl⟩;rw [← hd] at hdl hall cD;have HDD:=Lib.hid hd;have HDL:=Lib.hid hall;have CD:=Lib.hid cD;simp only [List.length_drop] at hdl;clear hd hall cD;have bad:(d = 0 ∨ 7 < d ∨ (t.drop 2)[d]? ≠ some 59) → nbF 10 2 7 (t.drop 2) = (0,0):=by
      intro h;unfold nbF;rw [if_pos];simp only [nbB,← HDD.out,Bool.or_eq_true,decide_eq_true_eq];rcases h with h | h | h
      · exact Or.inl (Or.inl h)
      · exact Or.inl (Or.inr h)
      · exact Or.inr h
     have good:¬ (d = 0 ∨ 7 < d ∨ (t.drop 2)[d]? ≠ some 59) → nbF 10 2 7 (t.drop 2) = (Nv 10 ((t.drop 2).take d),2 + d + 1):=by
      intro h;unfold nbF;rw [if_neg,← HDD.out];simp only [nbB,← HDD.out,Bool.or_eq_true,decide_eq_true_eq];rintro ((h' | h') | h')
      · exact h (Or.inl h')
      · exact h (Or.inr (Or.inl h'))
      · exact h (Or.inr (Or.inr h'))
     have BAD:=Lib.hid bad;have GOOD:=Lib.hid good;clear bad good;cases h0:((d:Int) == 0)
     rotate_left
     · have H0:=Lib.hid (eq_of_beq h0);go_enter Tryz.func170,Tryz.ntmps170;go_wp2_with (first | (go_at_call 159;refine (HP.out _ _).mono ?_;rintro e w' ⟨rfl,rfl⟩) | (go_at_call 183; (with_reducible refine (CD.out _ hE).mono ?_);rintro e w' ⟨rfl,hb'⟩));go_ret2;exact ⟨by rw [HN.out,BAD.out (Or.inl (by have:=H0.out;omega))];rfl,hb'⟩
     have H0:=Lib.hid (ne_of_beq_false h0);by_cases hm:7 < d
     · have hm':(7:Int) < d:=by omega
       go_enter Tryz.func170,Tryz.ntmps170;go_wp2_with (first | (go_at_call 159;refine (HP.out _ _).mono ?_;rintro e w' ⟨rfl,rfl⟩) | (go_at_call 183; (with_reducible refine (CD.out _ hE).mono ?_);rintro e w' ⟨rfl,hb'⟩));go_ret2;exact ⟨by rw [HN.out,BAD.out (Or.inr (Or.inl hm))];rfl,hb'⟩
     have hm':¬ (7:Int) < d:=by omega
     cases he:((d:Int) == ((t.length - 2:Nat):Int))
     rotate_left
     · have H1:=Lib.hid (eq_of_beq he);go_enter Tryz.func170,Tryz.ntmps170;go_wp2_with (first | (go_at_call 159;refine (HP.out _ _).mono ?_;rintro e w' ⟨rfl,rfl⟩) | (go_at_call 183; (with_reducible refine (CD.out _ hE).mono ?_);rintro e w' ⟨rfl,hb'⟩));go_ret2;exact ⟨by rw [HN.out,BAD.out (Or.inr (Or.inr (by rw [List.getElem?_eq_none (by have:=H1.out;simp;omega)];simp)))];rfl,hb'⟩
     have hne:=ne_of_beq_false he;have hlt:d < t.length - 2:=by omega
     have hix:2 + d < t.length:=by omega
     clear hne;have hlt':(d:Int) < ((t.length - 2:Nat):Int):=by omega
     have hle':(d:Int) ≤ ((t.length - 2:Nat):Int):=by omega
     have hle:d ≤ t.length - 2:=by omega
     have hd0:0 < d:=by have:=H0.out;omega
     have hbd:=Nv_bd 10 (by omega) (List.take d (List.drop 2 t)) HDL.out (by simp;omega);have PU:=Lib.hid (fun W => pu_yes 10 32 (List.take d (List.drop 2 t)) (by omega) (Or.inr ⟨rfl,by simp;omega⟩) (by simp;omega) HDL.out W);have hgd:(t.drop 2)[d]? = some (t[2 + d]'hix):=by rw [List.getElem?_drop];exact List.getElem?_eq_getElem _
     have HGD:=Lib.hid hgd;clear hgd;cases hx:(((t[2 + d]'hix).toNat:Int) != 59)
     · have HX:=Lib.hid hx;go_enter Tryz.func170,Tryz.ntmps170;go_wp2_with (first | (go_at_call 159;refine (HP.out _ _).mono ?_;rintro e w' ⟨rfl,rfl⟩) | (go_at_call 183; (with_reducible refine (CD.out _ hE).mono ?_);rintro e w' ⟨rfl,hb'⟩) | (go_at_call 184; (with_reducible refine (PU.out _).mono ?_);rintro e w'' ⟨rfl,hb''⟩));go_ret2;have hg:¬ (d = 0 ∨ 7 < d ∨ (t.drop 2)[d]? ≠ some 59):=by
        rw [HGD.out];rintro (h | h | h)
        · omega
        · exact hm h
        · have:=HX.out;simp only [bne_eq_false_iff_eq] at this;exact h (by rw [show t[2 + d]'hix = 59 from UInt8.toNat_inj.1 (by rw [show (59:UInt8).toNat = 59 from rfl];omega)])
       exact ⟨by rw [HN.out,GOOD.out hg];simp <;> omega,hb'.trans hb''⟩
     · have HX:=Lib.hid hx;go_enter Tryz.func170,Tryz.ntmps170;go_wp2_with (first | (go_at_call 159;refine (HP.out _ _).mono ?_;rintro e w' ⟨rfl,rfl⟩) | (go_at_call 183; (with_reducible refine (CD.out _ hE).mono ?_);rintro e w' ⟨rfl,hb'⟩));go_ret2;have hg:(t.drop 2)[d]? ≠ some 59:=by
        rw [HGD.out];intro h;have:=HX.out;rw [Option.some.inj h] at this;exact absurd this (by decide)
       exact ⟨by rw [HN.out,BAD.out (Or.inr (Or.inr hg))];rfl,hb'⟩
 · have hpl:=pre_len h1;simp only [List.length_cons,List.length_nil] at hpl;have hf:(3:Int) ≤ t.length:=by omega
   have hf2:3 ≤ t.length:=by omega
   have HN:=Lib.hid (show nbr t = nbF 16 3 6 (t.drop 3) by unfold nbr;rw [h1];rfl);have hdl:=ndg_le 16 (t.drop 3);have hall:=ndg_all 16 (t.drop 3);have cD:=fun W hW => digits_c 16 (t.drop 3) (by omega) (by simp;omega) W hW
   obtain ⟨d,hd⟩:∃ d,d = ndg 16 (t.drop 3):=⟨_,rfl⟩;rw [← hd] at hdl hall cD;have HDD:=Lib.hid hd;have HDL:=Lib.hid hall;have CD:=Lib.hid cD;simp only [List.length_drop] at hdl;clear hd hall cD;have bad:(d = 0 ∨ 6 < d ∨ (t.drop 3)[d]? ≠ some 59) → nbF 16 3 6 (t.drop 3) = (0,0):=by
    intro h;unfold nbF;rw [if_pos];simp only [nbB,← HDD.out,Bool.or_eq_true,decide_eq_true_eq];rcases h with h | h | h
    · exact Or.inl (Or.inl h)
    · exact Or.inl (Or.inr h)
    · exact Or.inr h
   have good:¬ (d = 0 ∨ 6 < d ∨ (t.drop 3)[d]? ≠ some 59) → nbF 16 3 6 (t.drop 3) = (Nv 16 ((t.drop 3).take d),3 + d + 1):=by
    intro h;unfold nbF;rw [if_neg,← HDD.out];simp only [nbB,← HDD.out,Bool.or_eq_true,decide_eq_true_eq];rintro ((h' | h') | h')
    · exact h (Or.inl h')
    · exact h (Or.inr (Or.inl h'))
    · exact h (Or.inr (Or.inr h'))
   have BAD:=Lib.hid bad;have GOOD:=Lib.hid good;clear bad good;cases h0:((d:Int) == 0)
   rotate_left
   · have H0:=Lib.hid (eq_of_beq h0);go_enter Tryz.func170,Tryz.ntmps170;go_wp2_with (first | (go_at_call 159;refine (HP.out _ _).mono ?_;rintro e w' ⟨rfl,rfl⟩) | (go_at_call 183; (with_reducible refine (CD.out _ hE).mono ?_);rintro e w' ⟨rfl,hb'⟩));go_ret2;exact ⟨by rw [HN.out,BAD.out (Or.inl (by have:=H0.out;omega))];rfl,hb'⟩
   have H0:=Lib.hid (ne_of_beq_false h0);by_cases hm:6 < d
   · have hm':(6:Int) < d:=by omega
     go_enter Tryz.func170,Tryz.ntmps170;go_wp2_with (first | (go_at_call 159;refine (HP.out _ _).mono ?_;rintro e w' ⟨rfl,rfl⟩) | (go_at_call 183; (with_reducible refine (CD.out _ hE).mono ?_);rintro e w' ⟨rfl,hb'⟩));go_ret2;exact ⟨by rw [HN.out,BAD.out (Or.inr (Or.inl hm))];rfl,hb'⟩
   have hm':¬ (6:Int) < d:=by omega
   cases he:((d:Int) == ((t.length - 3:Nat):Int))
   rotate_left
   · have H1:=Lib.hid (eq_of_beq he);go_enter Tryz.func170,Tryz.ntmps170;go_wp2_with (first | (go_at_call 159;refine (HP.out _ _).mono ?_;rintro e w' ⟨rfl,rfl⟩) | (go_at_call 183; (with_reducible refine (CD.out _ hE).mono ?_);rintro e w' ⟨rfl,hb'⟩));go_ret2;exact ⟨by rw [HN.out,BAD.out (Or.inr (Or.inr (by rw [List.getElem?_eq_none (by have:=H1.out;simp;omega)];simp)))];rfl,hb'⟩
   have hne:=ne_of_beq_false he;have hlt:d < t.length - 3:=by omega
   have hix:3 + d < t.length:=by omega
   clear hne;have hlt':(d:Int) < ((t.length - 3:Nat):Int):=by omega
   have hle':(d:Int) ≤ ((t.length - 3:Nat):Int):=by omega
   have hle:d ≤ t.length - 3:=by omega
   have hd0:0 < d:=by have:=H0.out;omega
   have hbd:=Nv_bd 16 (by omega) (List.take d (List.drop 3 t)) HDL.out (by simp;omega);have PU:=Lib.hid (fun W => pu_yes 16 32 (List.take d (List.drop 3 t)) (by omega) (Or.inr ⟨rfl,by simp;omega⟩) (by simp;omega) HDL.out W);have hgd:(t.drop 3)[d]? = some (t[3 + d]'hix):=by rw [List.getElem?_drop];exact List.getElem?_eq_getElem _
   have HGD:=Lib.hid hgd;clear hgd;cases hx:(((t[3 + d]'hix).toNat:Int) != 59)
   · have HX:=Lib.hid hx;go_enter Tryz.func170,Tryz.ntmps170;go_wp2_with (first | (go_at_call 159;refine (HP.out _ _).mono ?_;rintro e w' ⟨rfl,rfl⟩) | (go_at_call 183; (with_reducible refine (CD.out _ hE).mono ?_);rintro e w' ⟨rfl,hb'⟩) | (go_at_call 184; (with_reducible refine (PU.out _).mono ?_);rintro e w'' ⟨rfl,hb''⟩));go_ret2;have hg:¬ (d = 0 ∨ 6 < d ∨ (t.drop 3)[d]? ≠ some 59):=by
      rw [HGD.out];rintro (h | h | h)
      · omega
      · exact hm h
      · have:=HX.out;simp only [bne_eq_false_iff_eq] at this;exact h (by rw [show t[3 + d]'hix = 59 from UInt8.toNat_inj.1 (by rw [show (59:UInt8).toNat = 59 from rfl];omega)])
     exact ⟨by rw [HN.out,GOOD.out hg];simp <;> omega,hb'.trans hb''⟩
   · have HX:=Lib.hid hx;go_enter Tryz.func170,Tryz.ntmps170;go_wp2_with (first | (go_at_call 159;refine (HP.out _ _).mono ?_;rintro e w' ⟨rfl,rfl⟩) | (go_at_call 183; (with_reducible refine (CD.out _ hE).mono ?_);rintro e w' ⟨rfl,hb'⟩));go_ret2;have hg:(t.drop 3)[d]? ≠ some 59:=by
      rw [HGD.out];intro h;have:=HX.out;rw [Option.some.inj h] at this;exact absurd this (by decide)
     exact ⟨by rw [HN.out,BAD.out (Or.inr (Or.inr hg))];rfl,hb'⟩
theorem sign_c (t:List UInt8) (hl:t.length ≤ 4611686018427387904) (w:World) (hE:ES w) :
 Calls Tryz.prog 151 #[.string ⟨t.toArray⟩] w fun e w' => e = .returned (.tuple #[.string ⟨(sgn t).1.toArray⟩,.int .i64 (sgn t).2.1,.bool (sgn t).2.2])∧Bl w w':=by
 have NC:=Lib.hid (fun W => named_c t W);have UC:=Lib.hid (fun W hW => numbered_c t hl W hW);by_cases h0:0 < (nmd t).2
 · have HS:=Lib.hid (show sgn t = ((nmd t).1,(nmd t).2,true) by unfold sgn;rw [if_pos h0]);have h0':(0:Int) < ((nmd t).2:Int):=by omega
   go_enter Tryz.func151,Tryz.ntmps151;go_wp2_with (go_at_call 169; (with_reducible refine (NC.out _).mono ?_);rintro e w' ⟨rfl,hb⟩)
   go_ret3
   exact ⟨by rw [HS.out];rfl,hb⟩
 have h0':¬ (0:Int) < ((nmd t).2:Int):=by omega
 cases h1:(((nbr t).2:Int) == 0)
 · have h1':¬ (nbr t).2 = 0:=by have:=ne_of_beq_false h1;omega
   cases h2:scl (nbr t).1
   · have HS:=Lib.hid (show sgn t = ([239,191,189],(nbr t).2,false) by unfold sgn;rw [if_neg h0,if_neg h1', h2];rfl);go_enter Tryz.func151,Tryz.ntmps151;go_wp2_with (first | (go_at_call 169; (with_reducible refine (NC.out _).mono ?_);rintro e w' ⟨rfl,hb⟩;have hE':=hE.of_bl hb) | (go_at_call 170; (with_reducible refine (UC.out _ hE').mono ?_);rintro e w'' ⟨rfl,hb'⟩) | (go_at_call 171;refine (scalar_c _ _).mono ?_;rintro e w3 ⟨rfl,rfl⟩))
     go_ret3
     exact ⟨by rw [HS.out];rfl,hb.trans hb'⟩
   · have HS:=Lib.hid (show sgn t = (rowL (nbr t).1,(nbr t).2,true) by unfold sgn;rw [if_neg h0,if_neg h1', h2];rfl);have hs2:0 < (nbr t).1∧(nbr t).1 ≤ 1114111:=by simp [scl] at h2;omega
     obtain ⟨hs3,hs4⟩:=hs2;go_enter Tryz.func151,Tryz.ntmps151;go_wp2_with (first | (go_at_call 169; (with_reducible refine (NC.out _).mono ?_);rintro e w' ⟨rfl,hb⟩;have hE':=hE.of_bl hb) | (go_at_call 170; (with_reducible refine (UC.out _ hE').mono ?_);rintro e w'' ⟨rfl,hb'⟩) | (go_at_call 171;refine (scalar_c _ _).mono ?_;rintro e w3 ⟨rfl,rfl⟩) | go_quiet (fail))
     go_ret3
     exact ⟨by rw [HS.out];rfl,hb.trans hb'⟩
 · have h1':(nbr t).2 = 0:=by have:=eq_of_beq h1;omega
   have HS:=Lib.hid (show sgn t = ([38],0,false) by unfold sgn;rw [if_neg h0,if_pos h1']);clear h1';go_enter Tryz.func151,Tryz.ntmps151;go_wp2_with (first | (go_at_call 169; (with_reducible refine (NC.out _).mono ?_);rintro e w' ⟨rfl,hb⟩;have hE':=hE.of_bl hb) | (go_at_call 170; (with_reducible refine (UC.out _ hE').mono ?_);rintro e w'' ⟨rfl,hb'⟩))
   go_ret3
   exact ⟨by rw [HS.out];rfl,hb.trans hb'⟩
def Bu (B b:Nat) (l:List UInt8) (w:World):Prop:=Lib.IsBuilder 124 5 B b (Lib.byteCells l) w
theorem BuilderAt.of_bl {T e:TypeId} {B b:Nat} {p:Value} {bs:List Value} {w w':World} (h:Lib.BuilderAt T e B b p bs w) (hb:Bl w w'):Lib.BuilderAt T e B b p bs w':=by
 obtain ⟨hB,v,hk,hown,hne⟩:=h;have hlt:b < w.heap.size:=(Array.getElem?_eq_some_iff.1 hk).1;refine ⟨hB,v,(Below.block hb b hlt).trans hk,⟨hown.1,?_⟩,hne⟩;rcases hown.2 with h | ⟨g,cap,cur,h1,h2,h3,h4⟩
 · exact Or.inl h
 · exact Or.inr ⟨g,cap,cur,h1,h2,(Below.block hb g (Array.getElem?_eq_some_iff.1 h3).1).trans h3,h4⟩
theorem Bu.of_bl {B b:Nat} {l:List UInt8} {w w':World} (h:Bu B b l w) (hb:Bl w w'):Bu B b l w':=by
 rcases h with h | h
 · exact Or.inl (BuilderAt.of_bl h hb)
 · exact Or.inr (BuilderAt.of_bl h hb)
theorem wr_c (B b:Nat) (l a:List UInt8) (w:World) (h:Bu B b l w) (hlen:l.length + a.length ≤ 140737488355328) (hBw:B ≤ w.heap.size) :
 Calls Tryz.prog 100 #[.pointer (some ⟨b,0,none⟩),.string ⟨a.toArray⟩] w fun e w' => e = .returned (.tuple #[.int .i64 a.length,.nilIface])∧Bu B b (l ++ a) w' ∧ Below B w w':=by
 refine (write_c B b (Lib.byteCells l) ⟨a.toArray⟩ w h (by rw [Lib.byteCells_length];exact hlen) hBw).mono ?_;rintro e w' ⟨rfl,h1,h2⟩;exact ⟨rfl,by unfold Bu;rw [Lib.byteCells_append];exact Or.inr h1,h2⟩
theorem str_c (B b:Nat) (l:List UInt8) (w:World) (h:Bu B b l w) (hBw:B ≤ w.heap.size) :
 Calls Tryz.prog 103 #[.pointer (some ⟨b,0,none⟩)] w fun e w' => e = .returned (.string ⟨l.toArray⟩)∧Below B w w' :=
 Tryz.Builder_String_any B b l w h hBw
def strLen:Value → Nat | .string s => s.size | _ => 0
theorem taken_c (l:List UInt8) (hl:l.length ≤ 1099511627776) (w:World) (hE:ES w) :
 Calls Tryz.prog 128 #[.string ⟨l.toArray⟩] w fun e w' => e = .returned (.tuple #[.string ⟨(Tk l).1.toArray⟩,.bool (Tk l).2])∧Bl w w':=by
 go_enter Tryz.func128,Tryz.ntmps128;go_wp2;go_loopw [0,5] (fun s0 s5 wr => ∃ (rest out:List UInt8) (al:Bool),s0 = .string ⟨rest.toArray⟩∧s5 = .bool al∧Hid (Tk l = (out ++ (Tk rest).1,al && (Tk rest).2))∧rest.length ≤ l.length∧Bu w.heap.size w.heap.size out wr∧Bl w wr) (fun s0 _ _ => strLen s0);case atStart => exact ⟨l,[],true,rfl,rfl,Lib.hid (by simp),Nat.le_refl _,Or.inl ⟨Nat.le_refl _,.slice none 0 0,heap_alloc_last _ _,⟨rfl,Or.inl ⟨rfl,rfl⟩⟩,by simp [Value.ownBlock]⟩,(Bl.refl _).alloc _⟩
 case round =>
  obtain ⟨rest,out,al,rfl,rfl,HK,hr,hB,hbl⟩:=hrel;have hol:out.length ≤ 4 * l.length:=by
   have h1:=Tk_len l.length l (Nat.le_refl _);rw [HK.out] at h1;simp only [List.length_append] at h1;omega
  have hBs:=Below.size hbl;by_cases hn:rest = []
  · subst hn;have HS:=Lib.hid (fun W h hW => str_c w.heap.size w.heap.size out W h hW);go_wp2_with (go_at_call 103; (with_reducible refine (HS.out _ hB hBs).mono ?_);rintro e w' ⟨rfl,hb⟩);go_ret2;exact ⟨by rw [HK.out];simp [Tk_nil],Below.trans hbl hb⟩
  have hemp:rest.isEmpty = false:=by cases rest <;> simp_all
  have hrl:0 < rest.length:=List.length_pos_iff.2 hn;have CC:=Lib.hid (fun W => cut_c rest 38 (by omega) W);have hbf:=bef_len 38 rest;have haf:=aft_len 38 rest;by_cases hm:38 ∈ rest
  · have hK:=HK.out;rw [Tk_cut rest hm,Tk_amp] at hK;have hs:=sgn_len (38 :: aft 38 rest);obtain ⟨sg,hsg⟩:∃ sg,sg = sgn (38 :: aft 38 rest):=⟨_,rfl⟩;have SC:=Lib.hid (fun W hW => sign_c (38 :: aft 38 rest) (by simp;omega) W hW);rw [← hsg] at hK hs SC;obtain ⟨t,n,ok⟩:=sg;simp only [List.length_cons] at hs hK SC;obtain ⟨hs1,hs2⟩:=hs;have hlen:rest.length = (bef 38 rest).length + 1 + (aft 38 rest).length:=by
     rcases ixb 38 rest with ⟨_,_,h3⟩ | ⟨h,_⟩
     · have:=congrArg List.length h3;simp at this;omega
     · exact absurd hm h
    have HM:=Lib.hid (decide_eq_true hm);have HK2:=Lib.hid hK;obtain ⟨a,ha⟩:∃ a,a = bef 38 rest:=⟨_,rfl⟩;obtain ⟨c,hc⟩:∃ c,c = aft 38 rest:=⟨_,rfl⟩;rw [HM.out,← ha,← hc] at CC;rw [← hc] at SC HK2 hs2 haf;rw [← ha] at hbf HK2;rw [← ha,← hc] at hlen;clear hK hsg ha hc HM hm;go_wp2_with (first | (go_at_call 150; (with_reducible refine (CC.out _).mono ?_);rintro e w1 ⟨rfl,hq⟩;have hbl1:=hbl.trans hq.bl;have hB1:=hB.of_bl hq.bl;have HW:=Lib.hid (wr_c w.heap.size w.heap.size out a w1 hB1 (by omega) (Below.size hbl1))) | (go_at_call 100; (with_reducible refine HW.out.mono ?_);rintro e w2 ⟨rfl,hB2,hb2⟩;clear HW;have hbl2:Bl w w2:=Below.trans hbl1 hb2;have HS:=Lib.hid (SC.out w2 (hE.of_bl hbl2))) | (go_at_call 151;refine HS.out.mono ?_;rintro e w3 ⟨rfl,hb3⟩;clear HS;have hbl3:=hbl2.trans hb3;have hB3:=hB2.of_bl hb3;have HW2:=Lib.hid (wr_c w.heap.size w.heap.size (out ++ a) t w3 hB3 (by simp;omega) (Below.size hbl3))) | (go_at_call 100; (with_reducible refine HW2.out.mono ?_);rintro e w4 ⟨rfl,hB4,hb4⟩;clear HW2;have hbl4:Bl w w4:=Below.trans hbl3 hb4));all_goals
     have hmx:(max 0 ((n:Int) - 1)).toNat = n - 1:=by rw [Int.max_def];split <;> omega
     have hsm:strLen (Value.string ⟨(List.drop (n - 1) c).toArray⟩) < strLen (Value.string ⟨rest.toArray⟩):=by
      simp only [strLen,ByteArray.size,List.size_toArray,List.length_drop];omega
     rw [hmx]
    · obtain rfl:al = true:=by assumption
      exact ⟨⟨List.drop (n - 1) c,out ++ a ++ t,ok,rfl,rfl,Lib.hid (by rw [HK2.out];simp),by simp;omega,hB4,hbl4⟩,hsm⟩
    · obtain rfl:al = false:=by
       have h:¬ al = true:=by assumption
       simpa using h
      exact ⟨⟨List.drop (n - 1) c,out ++ a ++ t,false,rfl,rfl,Lib.hid (by rw [HK2.out];simp),by simp;omega,hB4,hbl4⟩,hsm⟩
  · have HN:=Lib.hid (Tk_none rest hm);have HM:=Lib.hid (decide_eq_false hm);have hbef:bef 38 rest = rest:=by
     rcases ixb 38 rest with ⟨h,_⟩ | ⟨_,_,h,_⟩
     · exact absurd h hm
     · exact h
    rw [HM.out,hbef] at CC;clear hbef hm hbf haf;go_wp2_with (first | (go_at_call 150; (with_reducible refine (CC.out _).mono ?_);rintro e w1 ⟨rfl,hq⟩;have hbl1:=hbl.trans hq.bl;have hB1:=hB.of_bl hq.bl;have HW:=Lib.hid (wr_c w.heap.size w.heap.size out rest w1 hB1 (by omega) (Below.size hbl1))) | (go_at_call 100; (with_reducible refine HW.out.mono ?_);rintro e w2 ⟨rfl,hB2,hb2⟩;clear HW;have hbl2:Bl w w2:=Below.trans hbl1 hb2;have HS:=Lib.hid (str_c w.heap.size w.heap.size (out ++ rest) w2 hB2 (Below.size hbl2))) | (go_at_call 103; (with_reducible refine HS.out.mono ?_);rintro e w3 ⟨rfl,hb3⟩));go_ret2;exact ⟨by rw [HK.out,HN.out];simp,Below.trans hbl2 hb3⟩
theorem startsAt_c (s p:List UInt8) (at':Nat) (hs:s.length ≤ 4611686018427387904) (hp:p.length ≤ 1000) (h:at' ≤ s.length) (w:World) :
 Calls Tryz.prog 112 #[.string ⟨s.toArray⟩,.int .i64 (at':Int),.string ⟨p.toArray⟩] w fun e w' => e = .returned (.bool (pre p (s.drop at')))∧w = w':=by
 have hq:=pre_iff p (s.drop at');simp only [List.length_drop] at hq;have HQ:=Lib.hid hq;clear hq;have h0:(0:Int) ≤ (at':Int):=by omega
 have h0':decide ((0:Int) ≤ (at':Int)) = true:=by simp
 by_cases hl:p.length ≤ s.length - at'
 · have hl1:(p.length:Int) ≤ (s.length:Int) - (at':Int):=by omega
   have hl2:(at':Int) + (p.length:Int) ≤ (s.length:Int):=by omega
   have hl3:at' + p.length ≤ s.length:=by omega
   have hl4:(at':Int) ≤ (at':Int) + (p.length:Int):=by omega
   have HL:=Lib.hid hl;clear hl;go_enter Tryz.func112,Tryz.ntmps112;go_wp2;go_ret;exact ⟨ret_bool (by rw [HQ.out,decide_eq_true HL.out];simp),rfl⟩
 · have hl1:¬ (p.length:Int) ≤ (s.length:Int) - (at':Int):=by omega
   have HL:=Lib.hid hl;clear hl;go_enter Tryz.func112,Tryz.ntmps112;go_wp2;go_ret;exact ⟨ret_bool (by rw [HQ.out,decide_eq_false HL.out];rfl),rfl⟩
theorem cv1 (W:World) (b:Nat) (x:Int) (hx:W.cell? ⟨b,0,none⟩ = some (.int .u8 x)):(convert 89 9 (.slice (some ⟨b,0,none⟩) 1 1)).run Tryz.prog W = .ok (.string ⟨[UInt8.ofNat x.toNat].toArray⟩) W :=
 run_convert_bytes_arg (P:=Tryz.prog) W 89 5 Tryz.underlying89 Tryz.underlying5 b 0 1 1 [x] rfl (fun i hi => by
  obtain rfl:i = 0:=by omega
  exact hx) 9 Tryz.underlying9
theorem cv2 (W:World) (b:Nat) (x y:Int) (hx:W.cell? ⟨b,0,none⟩ = some (.int .u8 x)) (hy:W.cell? ⟨b,1,none⟩ = some (.int .u8 y)):(convert 89 9 (.slice (some ⟨b,0,none⟩) 2 2)).run Tryz.prog W = .ok (.string ⟨[UInt8.ofNat x.toNat,UInt8.ofNat y.toNat].toArray⟩) W :=
 run_convert_bytes_arg (P:=Tryz.prog) W 89 5 Tryz.underlying89 Tryz.underlying5 b 0 2 2 [x,y] rfl (fun i hi => by
  have:i = 0 ∨ i = 1:=by omega
  rcases this with rfl | rfl
  · exact hx
  · exact hy) 9 Tryz.underlying9
theorem cv3 (W:World) (b:Nat) (x y z:Int) (hx:W.cell? ⟨b,0,none⟩ = some (.int .u8 x)) (hy:W.cell? ⟨b,1,none⟩ = some (.int .u8 y)) (hz:W.cell? ⟨b,2,none⟩ = some (.int .u8 z)):(convert 89 9 (.slice (some ⟨b,0,none⟩) 3 3)).run Tryz.prog W = .ok (.string ⟨[UInt8.ofNat x.toNat,UInt8.ofNat y.toNat,UInt8.ofNat z.toNat].toArray⟩) W :=
 run_convert_bytes_arg (P:=Tryz.prog) W 89 5 Tryz.underlying89 Tryz.underlying5 b 0 3 3 [x,y,z] rfl (fun i hi => by
  have:i = 0 ∨ i = 1 ∨ i = 2:=by omega
  rcases this with rfl | rfl | rfl
  · exact hx
  · exact hy
  · exact hz) 9 Tryz.underlying9
theorem cv4 (W:World) (b:Nat) (x y z u:Int) (hx:W.cell? ⟨b,0,none⟩ = some (.int .u8 x)) (hy:W.cell? ⟨b,1,none⟩ = some (.int .u8 y)) (hz:W.cell? ⟨b,2,none⟩ = some (.int .u8 z)) (hu:W.cell? ⟨b,3,none⟩ = some (.int .u8 u)):(convert 89 9 (.slice (some ⟨b,0,none⟩) 4 4)).run Tryz.prog W = .ok (.string ⟨[UInt8.ofNat x.toNat,UInt8.ofNat y.toNat,UInt8.ofNat z.toNat,UInt8.ofNat u.toNat].toArray⟩) W :=
 run_convert_bytes_arg (P:=Tryz.prog) W 89 5 Tryz.underlying89 Tryz.underlying5 b 0 4 4 [x,y,z,u] rfl (fun i hi => by
  have:i = 0 ∨ i = 1 ∨ i = 2 ∨ i = 3:=by omega
  rcases this with rfl | rfl | rfl | rfl
  · exact hx
  · exact hy
  · exact hz
  · exact hu) 9 Tryz.underlying9
theorem rowL_1 (n:Int) (h0:0 < n) (h1:n < 128):rowL n = [UInt8.ofNat n.toNat]:=by
 have hv:Utf8.valid n = true:=by simp [Utf8.valid];omega
 unfold rowL Utf8.encode;rw [hv];simp only [if_true];rw [if_pos (by omega)]
theorem rowL_2 (n:Int) (h0:128 ≤ n) (h1:n < 2048):rowL n = [UInt8.ofNat (192 + n / 64).toNat,UInt8.ofNat (128 + n % 64).toNat]:=by
 have hv:Utf8.valid n = true:=by simp [Utf8.valid];omega
 unfold rowL Utf8.encode;rw [hv];simp only [if_true];rw [if_neg (by omega),if_pos (by omega),show (192 + n / 64).toNat = 192 + n.toNat / 64 by omega,show (128 + n % 64).toNat = 128 + n.toNat % 64 by omega]
theorem rowL_3 (n:Int) (h0:2048 ≤ n) (h1:n < 65536) (h2:n < 55296 ∨ 57343 < n):rowL n = [UInt8.ofNat (224 + n / 4096).toNat,UInt8.ofNat (128 + n / 64 % 64).toNat,UInt8.ofNat (128 + n % 64).toNat]:=by
 have hv:Utf8.valid n = true:=by simp [Utf8.valid];omega
 unfold rowL Utf8.encode;rw [hv];simp only [if_true];rw [if_neg (by omega),if_neg (by omega),if_pos (by omega),show (224 + n / 4096).toNat = 224 + n.toNat / 4096 by omega,show (128 + n / 64 % 64).toNat = 128 + n.toNat / 64 % 64 by omega,show (128 + n % 64).toNat = 128 + n.toNat % 64 by omega]
theorem rowL_4 (n:Int) (h0:65536 ≤ n) (h1:n ≤ 1114111):rowL n = [UInt8.ofNat (240 + n / 262144).toNat,UInt8.ofNat (128 + n / 4096 % 64).toNat,UInt8.ofNat (128 + n / 64 % 64).toNat,UInt8.ofNat (128 + n % 64).toNat]:=by
 have hv:Utf8.valid n = true:=by simp [Utf8.valid];omega
 unfold rowL Utf8.encode;rw [hv];simp only [if_true];rw [if_neg (by omega),if_neg (by omega),if_neg (by omega),show (240 + n / 262144).toNat = 240 + n.toNat / 262144 by omega,show (128 + n / 4096 % 64).toNat = 128 + n.toNat / 4096 % 64 by omega,show (128 + n / 64 % 64).toNat = 128 + n.toNat / 64 % 64 by omega,show (128 + n % 64).toNat = 128 + n.toNat % 64 by omega]
theorem row_c (n:Int) (h0:0 < n) (h1:n ≤ 1114111) (h2:n < 55296 ∨ 57343 < n) (w:World) :
 Calls Tryz.prog 157 #[.int .i64 n] w fun e w' => e = .returned (.string ⟨(rowL n).toArray⟩)∧Bl w w':=by
 have c1:=cv1;have c2:=cv2;have c3:=cv3;have c4:=cv4;by_cases a1:n < 128
 · have HR:=Lib.hid (rowL_1 n h0 a1);go_enter Tryz.func157,Tryz.ntmps157;go_wp2;go_ret;exact ⟨by rw [HR.out];rfl,by repeat (first | exact Bl.refl _ | refine Bl.alloc ?_ _)⟩
 by_cases a2:n < 2048
 · have HR:=Lib.hid (rowL_2 n (by omega) a2);go_enter Tryz.func157,Tryz.ntmps157;go_wp2;go_ret;exact ⟨by rw [HR.out];rfl,by repeat (first | exact Bl.refl _ | refine Bl.alloc ?_ _)⟩
 by_cases a3:n < 65536
 · have HR:=Lib.hid (rowL_3 n (by omega) a3 h2);go_enter Tryz.func157,Tryz.ntmps157;go_wp2;go_ret;exact ⟨by rw [HR.out];rfl,by repeat (first | exact Bl.refl _ | refine Bl.alloc ?_ _)⟩
 · have HR:=Lib.hid (rowL_4 n (by omega) h1);go_enter Tryz.func157,Tryz.ntmps157;go_wp2;go_ret;exact ⟨by rw [HR.out];rfl,by repeat (first | exact Bl.refl _ | refine Bl.alloc ?_ _)⟩
def hd (p:UInt8 → Bool):List UInt8 → Bool
 | [] => false
 | c :: _ => p c
theorem hd_drop (p:UInt8 → Bool) (s:List UInt8) (k:Nat) (h:k < s.length):hd p (s.drop k) = p s[k]:=by rw [List.drop_eq_getElem_cons h];rfl
theorem hd_end (p:UInt8 → Bool) (s:List UInt8) (k:Nat) (h:s.length ≤ k):hd p (s.drop k) = false:=by rw [List.drop_eq_nil_of_le h];rfl
structure Do (N:Nat) (cap:Array Value) (p:UInt8 → Bool) (I:World → Prop):Prop where
 cf:∀ (args:Array Value) (W:World),Sem.run Tryz.prog (callFunc N args) W = .ok (.enter N args) W
 go:∀ (c:UInt8) W,I W → Calls Tryz.prog N (#[.int .u8 (c.toNat:Int)] ++ cap) W fun e w' => e = .returned (.bool (p c))∧Qt W w'
 qt:∀ W W', I W → Qt W W' → I W'
theorem here_c (N:Nat) (cap:Array Value) (p:UInt8 → Bool) (I:World → Prop) (hD:Do N cap p I) (b k:Nat) (s x:List UInt8) (v:Value) (w:World) (hI:I w) (hR:Rk w b s k x v) (_hs:s.length ≤ 1099511627776) :
 Calls Tryz.prog 160 #[.pointer (some ⟨b,0,none⟩),.func (.func N) #[] cap] w fun e w' => e = .returned (.bool (hd p (s.drop k)))∧Qt w w':=by
 obtain ⟨c0,c1,c2,c3,f0,f1,f2,f3⟩:=hR.cells;have hcf:=hD.cf;have HD:=Lib.hid (fun c W h => hD.go c W (hD.qt w W hI h));clear hD hR;by_cases hlt:k < s.length
 · have hlt':(k:Int) < (s.length:Int):=by omega
   have H1:=Lib.hid (hd_drop p s k hlt);go_enter Tryz.func160,Tryz.ntmps160;go_wp2_with (go_quiet (first | (refine quiet_qt (HD.out s[k] _ ?_);exact ⟨_,rfl⟩)));go_ret;exact ⟨by rw [H1.out];rfl,(Qt.refl _).drewN _⟩
 · have hlt':decide ((k:Int) < (s.length:Int)) = false:=by simp;omega
   have H1:=Lib.hid (hd_end p s k (by omega));go_enter Tryz.func160,Tryz.ntmps160;go_wp2_with (go_quiet (fail));go_ret;exact ⟨by rw [H1.out];rfl,(Qt.refl _).drewN _⟩
theorem tw_take {α:Type} (p:α → Bool) (l:List α):l.take (l.takeWhile p).length = l.takeWhile p:=(List.prefix_iff_eq_take.1 (List.takeWhile_prefix p)).symm
theorem tw_drop {α:Type} (p:α → Bool) (l:List α):l.drop (l.takeWhile p).length = l.dropWhile p:=by
 induction l with
 | nil => rfl
 | cons a l ih => simp only [List.takeWhile_cons,List.dropWhile_cons];split <;> simp [ih]
theorem hd_in (p:UInt8 → Bool) (s:List UInt8) (k j:Nat) (h:j < ((s.drop k).takeWhile p).length):hd p (s.drop (k + j)) = true∧k + j < s.length:=by
 have h1:=tw_take p (s.drop k);have h2:((s.drop k).takeWhile p).length ≤ (s.drop k).length:=(List.takeWhile_prefix p).length_le;rw [List.length_drop] at h2;have hlt:k + j < s.length:=by omega
 refine ⟨?_,hlt⟩;rw [hd_drop p s (k + j) hlt];have h3:((s.drop k).takeWhile p)[j] = s[k + j]:=by
  have:((s.drop k).take ((s.drop k).takeWhile p).length)[j]'(by rw [h1];exact h) = s[k + j]:=by simp
  rw [← this];congr 1;exact h1.symm
 rw [← h3];exact mem_tw (List.getElem_mem h)
theorem hd_out (p:UInt8 → Bool) (s:List UInt8) (k:Nat):hd p (s.drop (k + ((s.drop k).takeWhile p).length)) = false:=by
 rw [← List.drop_drop,tw_drop];induction s.drop k with
 | nil => rfl
 | cons a l ih =>
   rw [List.dropWhile_cons];cases h:p a
   · simp [hd,h]
   · simpa using ih
theorem pass_c (N:Nat) (cap:Array Value) (p:UInt8 → Bool) (I:World → Prop) (hD:Do N cap p I) (b k:Nat) (s x:List UInt8) (v:Value) (w:World) (hI:I w) (hI2:∀ W u,I W → I (W.setCell ⟨b,1,none⟩ u)) (hR:Rk w b s k x v) (hk:k ≤ s.length) (hs:s.length ≤ 1099511627776) :
 Calls Tryz.prog 145 #[.pointer (some ⟨b,0,none⟩),.func (.func N) #[] cap] w fun e w' => e = .returned (.string ⟨((s.drop k).takeWhile p).toArray⟩) ∧
  Rk w' b s (k + ((s.drop k).takeWhile p).length) x v∧w.grownBy w' (some b)∧I w':=by
 obtain ⟨c0,c1,c2,c3,f0,f1,f2,f3⟩:=hR.cells;have HH:=Lib.hid (fun j W h1 h2 => here_c N cap p I hD b j s x v W h1 h2 hs);have HIN:=Lib.hid (hd_in p s k);have HOUT:=Lib.hid (hd_out p s k);have HT:=Lib.hid (tw_take p (s.drop k));have hle:k + ((s.drop k).takeWhile p).length ≤ s.length:=by
  have h2:((s.drop k).takeWhile p).length ≤ (s.drop k).length:=(List.takeWhile_prefix p).length_le;rw [List.length_drop] at h2;omega
 have HQ:=Lib.hid hD.qt;have HI2:=Lib.hid hI2;obtain ⟨t,ht⟩:∃ t,t = (s.drop k).takeWhile p:=⟨_,rfl⟩;rw [← ht] at HIN HOUT HT hle ⊢;clear ht hD hI2;go_enter Tryz.func145,Tryz.ntmps145;go_wp2;clear c0 c1 c2 c3 f0 f1 f2 f3;go_loopw [] (fun wr => ∃ j:Nat,j ≤ t.length∧Rk wr b s (k + j) x v∧w.grownBy wr (some b)∧I wr) (fun wr => s.length - atOf b wr);case atStart => exact ⟨0,Nat.zero_le _,hR,gb_refl _ _,hI⟩
 case round =>
  obtain ⟨j,hj,hRr,hg,hIr⟩:=hrel;by_cases hlt:j < t.length
  · obtain ⟨h1,h2⟩:=HIN.out j hlt;have h2':(k:Int) + (j:Int) < (s.length:Int):=by omega
    go_wp2_with (go_at_call 160; (with_reducible refine (HH.out (k + j) _ hIr hRr).mono ?_);rintro e w1 ⟨rfl,hq⟩;have hR1:=hRr.of_bl hq.bl;have hI1:=HQ.out _ _ hIr hq;have hg1:=gb_trans hg (gb_qt (b:=some b) hq);obtain ⟨c0,c1,c2,c3,f0,f1,f2,f3⟩:=hR1.cells);go_roundw;case rel => exact ⟨j + 1,by omega,hR1.seti (by omega),gb_set hg1 _ _,HI2.out _ _ hI1⟩
    case measure =>
     have hz:=(hR1.seti (n:=(k:Int) + (j:Int) + 1) (j:=k + j + 1) (by omega)).at_eq;rw [hRr.at_eq,hz];omega
  · obtain rfl:j = t.length:=by omega
    have h1:=HOUT.out;go_wp2_with (first | (go_at_call 160; (with_reducible refine (HH.out (k + t.length) _ hIr hRr).mono ?_);rintro e w1 ⟨rfl,hq⟩;have hR1:=hRr.of_bl hq.bl;have hI1:=HQ.out _ _ hIr hq;have hg1:=gb_trans hg (gb_qt (b:=some b) hq);obtain ⟨c0,c1,c2,c3,f0,f1,f2,f3⟩:=hR1.cells) | go_quiet (fail));go_ret;refine ⟨?_,hR1.of_bl ((Bl.refl _).drewN _),gb_drewN hg1 _,HQ.out _ _ hI1 ((Qt.refl _).drewN _)⟩;have e:List.take (k + t.length - k) (List.drop k s) = t:=by rw [Nat.add_sub_cancel_left];exact HT.out
    show Ending.returned (.string ⟨(List.take (k + t.length - k) (List.drop k s)).toArray⟩) = _;rw [e]
end Go.Proofs.YthnpljkekhieiaaGreatDoor

/- strings.Cut at a byte; strings.Builder. · Signs that are taken: what they tell, said by plain functions. · Kinds of bytes. · Tokens: what reading, checking and printing answer, said by plain functions. · Trees: what building, checking and flattening answer, said by plain functions; plain laws. · Trees: plain laws: what is built is right; built of its own tokens it is the same; walls; texts. · Shelves: what checking and keeping answer, said by plain functions. · Tokens: memory; kinds of bytes, small letters, names: program and reference. · Tokens: names: program and reference. -/
import Derived.Test.YthnpljkekhieiaaGreatDoorEscF
import Derived.Lib.Builder
import Derived.Lib.Strings
import Derived.Lib.Slices
import Derived.Lib.Walk
import Derived.Lib.AppendStr
import Derived.Lib.UnsafeStr
import Derived.Test.YthnpljkekhieiaaGreatDoorGrpA
import Derived.Lib.Bytealg
import Derived.Shelf.Spec.SearchS
import Derived.Test.YthnpljkekhieiaaGreatDoorGrpB
import Derived.Laws.AppendOwn
import Derived.OwnWalk
import Derived.Deep.QuietTactic
import Derived.BigQuiet
import Derived.RegionTactic
set_option maxRecDepth 100000
set_option maxHeartbeats 2000000
namespace Go.Proofs.YthnpljkekhieiaaGreatDoor
open Go.RowKit
def bef (x:UInt8) (l:List UInt8):List UInt8:=l.takeWhile (· != x)
def aft (x:UInt8) (l:List UInt8):List UInt8:=(l.dropWhile (· != x)).drop 1
theorem ixb (x:UInt8) (l:List UInt8):(x ∈ l∧Lib.indexByte l x = (bef x l).length∧l = bef x l ++ x :: aft x l) ∨ (x ∉ l∧Lib.indexByte l x = -1∧bef x l = l∧aft x l = []):=by
 induction l with
 | nil => right;simp [Lib.indexByte,bef,aft]
 | cons c l ih =>
   by_cases h:c = x
   · subst h;left;simp [Lib.indexByte,bef,aft]
   · have h':(c != x) = true:=by simp [h]
     rcases ih with ⟨h1,h2,h3⟩ | ⟨h1,h2,h3,h4⟩
     · left;refine ⟨by simp [h1],?_,?_⟩
       · unfold Lib.indexByte;simp [h,h2,bef]
       · simp only [bef,aft,List.takeWhile_cons,List.dropWhile_cons,h', if_true,List.cons_append] at h3 ⊢;rw [← h3]
     · right;refine ⟨fun hm => by rcases List.mem_cons.1 hm with e | e;exact h e.symm;exact h1 e,?_,?_,?_⟩
       · unfold Lib.indexByte;simp [h,h2]
       · simp only [bef,List.takeWhile_cons,h', if_true] at h3 ⊢;rw [h3]
       · simpa only [aft,List.dropWhile_cons,h', if_true] using h4
theorem bef_len (x:UInt8) (l:List UInt8):(bef x l).length ≤ l.length:=by
 unfold bef;induction l with
 | nil => simp
 | cons c l ih => simp only [List.takeWhile_cons];split <;> simp <;> omega
theorem aft_len (x:UInt8) (l:List UInt8):(aft x l).length ≤ l.length:=by
 rcases ixb x l with ⟨_,_,h⟩ | ⟨_,_,_,h⟩
 · have:=congrArg List.length h;simp at this;omega
 · rw [h];simp
theorem index_c (l:List UInt8) (x:UInt8) (w:World):Calls Tryz.prog 182 #[.string ⟨l.toArray⟩,.string ⟨#[x]⟩] w fun e w' => e = .returned (.int .i64 (Lib.indexByte l x))∧w = w' :=
 (Tryz.stringslite_Index_one ⟨l.toArray⟩ x w).mono fun _ _ ⟨he,hw⟩ => ⟨he,hw.symm⟩
theorem cutl_c (l:List UInt8) (x:UInt8) (hl:l.length ≤ 9223372036854775806) (w:World) :
 Calls Tryz.prog 168 #[.string ⟨l.toArray⟩,.string ⟨#[x]⟩] w fun e w' => e = .returned (.tuple #[.string ⟨(bef x l).toArray⟩,.string ⟨(aft x l).toArray⟩,.bool (decide (x ∈ l))])∧Qt w w':=by
 have hc:=fun W => index_c l x W
 rcases ixb x l with ⟨h1,h2,h3⟩ | ⟨h1,h2,h3,h4⟩
 · have hlen:=congrArg List.length h3;simp only [List.length_append,List.length_cons] at hlen;have ht:l.take (bef x l).length = bef x l:=by
    have:(bef x l ++ x :: aft x l).take (bef x l).length = bef x l:=List.take_left' rfl;rwa [← h3] at this
   have hd:l.drop ((bef x l).length + 1) = aft x l:=by
    have:((bef x l ++ [x]) ++ aft x l).drop ((bef x l).length + 1) = aft x l:=List.drop_left' (by simp);rwa [List.append_assoc,List.singleton_append,← h3] at this
   obtain ⟨n,hn⟩:∃ n,n = (bef x l).length:=⟨_,rfl⟩;rw [← hn] at ht hd hlen h2;rw [h2] at hc;have HT:=Lib.hid ht;have HD:=Lib.hid hd;have HC:=Lib.hid hc;have HM:=Lib.hid (decide_eq_true h1);have hnl:n + 1 ≤ l.length:=by omega
   have hnl':(n:Int) + 1 ≤ (l.length:Int):=by omega
   have hnl2:(n:Int) ≤ (l.length:Int):=by omega
   clear h1 h2 h3 ht hd hn hlen hc;go_enter Tryz.func168,Tryz.ntmps168;go_wp2_with (first | (go_at_call 182;refine (HC.out _).mono ?_;rintro e w' ⟨rfl,rfl⟩) | go_quiet (fail))
   go_ret3
   exact ⟨by rw [← HT.out,← HD.out,HM.out];rfl,_,rfl⟩
 · rw [h2] at hc;have HC:=Lib.hid hc;have HB:=Lib.hid h3;have HA:=Lib.hid h4;have HM:=Lib.hid (decide_eq_false h1);clear hc h1 h2 h3 h4;go_enter Tryz.func168,Tryz.ntmps168;go_wp2_with (first | (go_at_call 182;refine (HC.out _).mono ?_;rintro e w' ⟨rfl,rfl⟩) | go_quiet (fail))
   go_ret3
   exact ⟨by rw [HB.out,HA.out,HM.out];rfl,Qt.refl _⟩
theorem cut_c (l:List UInt8) (x:UInt8) (hl:l.length ≤ 9223372036854775806) (w:World) :
 Calls Tryz.prog 150 #[.string ⟨l.toArray⟩,.string ⟨#[x]⟩] w fun e w' => e = .returned (.tuple #[.string ⟨(bef x l).toArray⟩,.string ⟨(aft x l).toArray⟩,.bool (decide (x ∈ l))])∧Qt w w':=by
 go_enter Tryz.func150,Tryz.ntmps150;go_wp2_with (go_at_call 168;refine (cutl_c l x hl _).mono ?_;rintro e w' ⟨rfl,n,rfl⟩)
 go_ret3
 exact ⟨rfl,n,rfl⟩
/-! ### The builder -/
theorem sizeB:(Tryz.prog.info? 124).map (·.size) = some 2:=by kernel_rfl
theorem copyCheck_used (b:Nat) (w:World) (h0:w.cell? ⟨b,0,none⟩ = some (.pointer (some ⟨b,0,none⟩))) :
 Calls Tryz.prog 133 #[.pointer (some ⟨b,0,none⟩)] w fun e w' => e = .returned (.tuple #[])∧w' = w:=by
 obtain ⟨j,hj,_⟩:=Option.map_eq_some_iff.1 sizeB;go_enter Tryz.func133,Tryz.ntmps133;go_wp2;rw [Lib.run_neq_ptr_same w _ Tryz.underlying122 hj];go_wp2;go_end0;exact ⟨rfl,rfl⟩
theorem liesB:liesAt Tryz.prog Tryz.prog.depth 124 (2 / Tryz.prog.cellsOf 124) 0 124 1 = true:=by kernel_rfl
theorem copyCheck_fresh (b:Nat) (w:World) (h0:w.cell? ⟨b,0,none⟩ = some (.pointer none)) (hsh:w.shape? b = some (124,2)) (hfz:w.frozen? ⟨b,0,none⟩ = false) :
 Calls Tryz.prog 133 #[.pointer (some ⟨b,0,none⟩)] w fun e w' => e = .returned (.tuple #[])∧w' = w.setCell ⟨b,0,none⟩ (.pointer (some ⟨b,0,none⟩)):=by
 obtain ⟨j,hj,hjs⟩:=Option.map_eq_some_iff.1 sizeB;go_enter Tryz.func133,Tryz.ntmps133;go_wp2;rw [Lib.run_to_unsafe w ⟨b,0,none⟩ Tryz.underlying122 Tryz.underlying169 hj (by rw [hjs];decide) hsh (Nat.zero_lt_succ 1)];simp only [Result.andThen];rw [Oper.upon_value];go_wp2;rw [run_callFunc_extern Tryz.func153 (by kernel_rfl) (by kernel_rfl) (by kernel_rfl) (e:=Extern.AbiNoEscape.same) (by kernel_rfl)];rw [Lib.run_noEscape];simp only [Result.andThen];rw [Oper.upon_value];go_wp2;rw [Lib.run_from_unsafe w ⟨b,0,none⟩ Tryz.underlying169 Tryz.underlying122 hj hsh liesB];simp only [Result.andThen];rw [Oper.upon_value];go_wp2;go_end0;exact ⟨rfl,rfl⟩
theorem copyCheck_c (B b:Nat) (bs:List Value) (w:World) (h:Lib.IsBuilder 124 5 B b bs w) :
 Calls Tryz.prog 133 #[.pointer (some ⟨b,0,none⟩)] w fun e w' => e = .returned (.tuple #[])∧(Lib.BuilderAt 124 5 B b (.pointer (some ⟨b,0,none⟩)) bs w' ∧ Below B w w'):=by
 rcases h with h | h
 · refine (copyCheck_fresh b w h.cell0 h.shape h.frozen0).mono ?_;rintro e w' ⟨rfl,rfl⟩;exact ⟨rfl,h.used _,(Below.refl B w).setCell (p:=⟨b,0,none⟩) h.1 _⟩
 · refine (copyCheck_used b w h.cell0).mono ?_;rintro e w' ⟨rfl,rfl⟩;exact ⟨rfl,h,Below.refl B _⟩
theorem infoByte:(Tryz.prog.info? 5).map (fun i => (i.zero,i.size,i.bytes)) = some (some (.int .u8 0),1,1):=by kernel_rfl
theorem neB5:(124:Nat) ≠ 5:=by decide
theorem write_c (B b:Nat) (bs:List Value) (s:ByteArray) (w:World) (h:Lib.IsBuilder 124 5 B b bs w) (hlen:bs.length + s.size ≤ 140737488355328) (hBw:B ≤ w.heap.size) :
 Calls Tryz.prog 100 #[.pointer (some ⟨b,0,none⟩),.string s] w fun e w' => e = .returned (.tuple #[.int .i64 s.size,.nilIface])∧(Lib.BuilderAt 124 5 B b (.pointer (some ⟨b,0,none⟩)) (bs ++ Lib.strCells s) w' ∧ Below B w w'):=by
 obtain ⟨i0,hi,hz0,hz1,hz2⟩:=info_parts infoByte;go_enter Tryz.func100,Tryz.ntmps100;go_wp2_with (go_at_call 133;refine (copyCheck_c B b bs _ h).mono ?_);rintro e w1 ⟨rfl,h1,hb1⟩;obtain ⟨hB,v,hbk,hown,hne⟩:=h1;have c0:w1.cell? ⟨b,0,none⟩ = some (.pointer (some ⟨b,0,none⟩)):=by rw [Lib.cell_of_heap hbk];rfl
 have c1:w1.cell? ⟨b,1,none⟩ = some v:=by rw [Lib.cell_of_heap hbk];rfl
 go_wp2_with (at_builtin;refine Lib.wpList_append_own_string _ rfl _ _ 89 9 rfl B 5 i0 Tryz.underlying89 Tryz.underlying9 hi hz0 hz1 hz2 _ _ _ rfl hown s rfl ?c3 ?c4 ?c5 ?_);case c3 => unfold maxLen;omega
 case c4 => omega
 case c5 => have:=hb1.size;omega
 intro v' w2 hown' hgrow _;have hlt:b < w1.heap.size:=by
  rcases Nat.lt_or_ge b w1.heap.size with h' | h'
  · exact h'
  · simp [Array.getElem?_eq_none h'] at hbk
 have hb2:w2.heap[b]? = some (.cells #[.pointer (some ⟨b,0,none⟩),v] 124 (0,0)):=by
  rw [hgrow.block b hlt (fun e => hne e.symm)];exact hbk
 have d0:w2.cell? ⟨b,0,none⟩ = some (.pointer (some ⟨b,0,none⟩)):=by rw [Lib.cell_of_heap hb2];rfl
 have d1:w2.cell? ⟨b,1,none⟩ = some v:=by rw [Lib.cell_of_heap hb2];rfl
 have f1:w2.frozen? ⟨b,1,none⟩ = false:=Lib.frozen_of_heap hb2 1;obtain ⟨ao,n', cap,rfl⟩:∃ ao n' cap,v' = .slice ao n' cap:=by
  rcases hown'.2 with ⟨hv,_⟩ | ⟨g,cap,cur,hv,_⟩
  · exact ⟨_,_,_,hv⟩
  · exact ⟨_,_,_,hv⟩
 go_wp2;go_ret2;refine ⟨rfl,?_,?_⟩
 · exact Lib.BuilderAt.put (T:=124) (e:=5) hB hb2 (bs':=bs ++ Lib.strCells s) (by simpa [Lib.strCells_length] using hown') neB5
 · exact (hb1.grown hgrow (by have:=hb1.size;omega) (fun k hk => (hown.lt k hk).1)).setCell (p:=⟨b,1,none⟩) hB _
def pre (p t:List UInt8):Bool:=p.isPrefixOf t
def nAmp:List UInt8:=[38,97,109,112,59]
def nLt:List UInt8:=[38,108,116,59]
def nGt:List UInt8:=[38,103,116,59]
def nQuot:List UInt8:=[38,113,117,111,116,59]
def nApos:List UInt8:=[38,97,112,111,115,59]
def nmd (t:List UInt8):List UInt8 × Nat :=
 if pre nAmp t then ([38],5) else if pre nLt t then ([60],4) else if pre nGt t then ([62],4) else if pre nQuot t then ([34],6) else if pre nApos t then ([39],6) else ([],0)
def ndg (b:Int) (r:List UInt8):Nat:=(r.takeWhile (dig b)).length
def nbB (b:Int) (most:Nat) (r:List UInt8):Bool:=decide (ndg b r = 0) || decide (most < ndg b r) || decide (r[ndg b r]? ≠ some 59)
def nbF (b:Int) (f most:Nat) (r:List UInt8):Int × Nat:=if nbB b most r then (0,0) else (Nv b (r.take (ndg b r)),f + ndg b r + 1)
def nbr (t:List UInt8):Int × Nat:=if pre [38,35,120] t then nbF 16 3 6 (t.drop 3) else if pre [38,35] t then nbF 10 2 7 (t.drop 2) else (0,0)
def scl (n:Int):Bool:=decide (0 < n) && decide (n ≤ 1114111) && (decide (n < 55296) || decide (57343 < n))
def rowL (n:Int):List UInt8:=(Utf8.encode n).data.toList
def sgn (t:List UInt8):List UInt8 × Nat × Bool :=
 if 0 < (nmd t).2 then ((nmd t).1,(nmd t).2,true) else if (nbr t).2 = 0 then ([38],0,false) else if scl (nbr t).1 then (rowL (nbr t).1,(nbr t).2,true) else ([239,191,189],(nbr t).2,false)
theorem pre_len {p t:List UInt8} (h:pre p t = true):p.length ≤ t.length:=(List.isPrefixOf_iff_prefix.1 h).length_le
theorem pre_iff (p t:List UInt8):pre p t = (decide (p.length ≤ t.length) && (t.take p.length == p)):=by
 rw [Bool.eq_iff_iff];simp only [pre,List.isPrefixOf_iff_prefix,Bool.and_eq_true,decide_eq_true_eq,beq_iff_eq];constructor
 · intro h;exact ⟨h.length_le,List.prefix_iff_eq_take.1 h |>.symm⟩
 · rintro ⟨_,h⟩;rw [List.prefix_iff_eq_take];exact h.symm
theorem mem_tw {α:Type} {p:α → Bool} {l:List α} {c:α} (h:c ∈ l.takeWhile p):p c = true:=by
 induction l with
 | nil => simp at h
 | cons a l ih =>
   rw [List.takeWhile_cons] at h;split at h
   · rcases List.mem_cons.1 h with rfl | h
     · assumption
     · exact ih h
   · simp at h
theorem ndg_le (b:Int) (r:List UInt8):ndg b r ≤ r.length:=(List.takeWhile_prefix _).length_le
theorem ndg_take (b:Int) (r:List UInt8):r.take (ndg b r) = r.takeWhile (dig b):=by
 have:=(List.prefix_iff_eq_take.1 (List.takeWhile_prefix (l:=r) (dig b)));rw [ndg];exact this.symm
theorem ndg_all (b:Int) (r:List UInt8):(r.take (ndg b r)).all (dig b) = true:=by
 rw [ndg_take,List.all_eq_true];exact fun c hc => mem_tw hc
theorem rowL_len (n:Int):(rowL n).length ≤ 4:=by
 unfold rowL Utf8.encode;simp only []; (repeat' split) <;> simp
theorem nmd_len (t:List UInt8):(nmd t).1.length ≤ 1∧(nmd t).2 ≤ t.length:=by
 unfold nmd;split
 · rename_i h;exact ⟨by simp,pre_len h⟩
 split
 · rename_i h;exact ⟨by simp,pre_len h⟩
 split
 · rename_i h;exact ⟨by simp,pre_len h⟩
 split
 · rename_i h;exact ⟨by simp,pre_len h⟩
 split
 · rename_i h;exact ⟨by simp,pre_len h⟩
 · simp
theorem nbF_len (b:Int) (f most:Nat) (r:List UInt8):(nbF b f most r).2 = 0 ∨ (nbF b f most r).2 ≤ f + r.length:=by
 unfold nbF;by_cases h:nbB b most r = true
 · rw [if_pos h];left;rfl
 · rw [if_neg h];right;have h2:=ndg_le b r;simp only [nbB,Bool.or_eq_true,decide_eq_true_eq,not_or] at h;rcases Nat.lt_or_ge (ndg b r) r.length with h3 | h3
   · simp only [];omega
   · have:=h.2;rw [List.getElem?_eq_none h3] at this;simp at this
theorem nbr_len (t:List UInt8):(nbr t).2 ≤ t.length:=by
 unfold nbr;split
 · rename_i h;have h1:=pre_len h;have h2:=nbF_len 16 3 6 (t.drop 3);simp only [List.length_cons,List.length_nil,List.length_drop] at h1 h2;omega
 split
 · rename_i h;have h1:=pre_len h;have h2:=nbF_len 10 2 7 (t.drop 2);simp only [List.length_cons,List.length_nil,List.length_drop] at h1 h2;omega
 · simp
theorem sgn_len (t:List UInt8):(sgn t).1.length ≤ 4∧(sgn t).2.1 ≤ t.length:=by
 have h1:=nmd_len t;have h2:=nbr_len t;have h3:=rowL_len (nbr t).1;unfold sgn;split
 · exact ⟨by simp only [];omega,h1.2⟩
 split
 · simp
 split
 · exact ⟨h3,h2⟩
 · exact ⟨by simp,h2⟩
def TkF:Nat → List UInt8 → List UInt8 × Bool
 | 0,_ => ([],true)
 | _ + 1,[] => ([],true)
 | k + 1,c :: r => if c = 38 then ((sgn (38 :: r)).1 ++ (TkF k (r.drop ((sgn (38 :: r)).2.1 - 1))).1,(sgn (38 :: r)).2.2 && (TkF k (r.drop ((sgn (38 :: r)).2.1 - 1))).2) else (c :: (TkF k r).1,(TkF k r).2)
def Tk (l:List UInt8):List UInt8 × Bool:=TkF l.length l
theorem TkF_two (k:Nat):∀ (j:Nat) (l:List UInt8),l.length ≤ k → l.length ≤ j → TkF k l = TkF j l:=by
 induction k with
 | zero =>
   intro j l h _;obtain rfl:=List.eq_nil_of_length_eq_zero (Nat.le_zero.1 h);cases j <;> rfl
 | succ k ih =>
   intro j l h h';cases l with
   | nil => cases j <;> rfl
   | cons c r =>
     cases j with
     | zero => simp at h'
     | succ j =>
       simp only [List.length_cons,Nat.add_le_add_iff_right] at h h';unfold TkF;rw [ih j r h h', ih j (r.drop ((sgn (38 :: r)).2.1 - 1)) (by simp;omega) (by simp;omega)]
theorem TkF_eq (k:Nat) (l:List UInt8) (h:l.length ≤ k):TkF k l = Tk l:=TkF_two k _ l h (Nat.le_refl _)
theorem Tk_nil:Tk [] = ([],true):=rfl
theorem Tk_plain (c:UInt8) (r:List UInt8) (h:c ≠ 38):Tk (c :: r) = (c :: (Tk r).1,(Tk r).2):=by
 rw [Tk,List.length_cons,TkF,if_neg h];rfl
theorem Tk_amp (r:List UInt8):Tk (38 :: r) = ((sgn (38 :: r)).1 ++ (Tk (r.drop ((sgn (38 :: r)).2.1 - 1))).1,(sgn (38 :: r)).2.2 && (Tk (r.drop ((sgn (38 :: r)).2.1 - 1))).2):=by
 rw [Tk,List.length_cons,TkF,if_pos rfl,TkF_eq _ _ (by simp)]
theorem Tk_app (p r:List UInt8) (h:38 ∉ p):Tk (p ++ r) = (p ++ (Tk r).1,(Tk r).2):=by
 induction p with
 | nil => rfl
 | cons c p ih =>
   simp only [List.mem_cons,not_or] at h;rw [List.cons_append,Tk_plain _ _ (fun e => h.1 e.symm),ih h.2];rfl
theorem Tk_none (l:List UInt8) (h:38 ∉ l):Tk l = (l,true):=by
 have:=Tk_app l [] h;rw [List.append_nil] at this;rw [this];simp [Tk_nil]
theorem bef_not (x:UInt8) (l:List UInt8):x ∉ bef x l:=by
 intro h;have:=mem_tw h;simp at this
theorem Tk_cut (l:List UInt8) (h:38 ∈ l):Tk l = (bef 38 l ++ (Tk (38 :: aft 38 l)).1,(Tk (38 :: aft 38 l)).2):=by
 rcases ixb 38 l with ⟨_,_,h3⟩ | ⟨h1,_⟩
 · conv => lhs;rw [h3]
   exact Tk_app _ _ (bef_not 38 l)
 · exact absurd h h1
theorem Tk_len (k:Nat):∀ l:List UInt8,l.length ≤ k → (Tk l).1.length ≤ 4 * l.length:=by
 induction k with
 | zero =>
   intro l h;obtain rfl:=List.eq_nil_of_length_eq_zero (Nat.le_zero.1 h);simp [Tk_nil]
 | succ k ih =>
   intro l h;cases l with
   | nil => simp [Tk_nil]
   | cons c r =>
     simp only [List.length_cons,Nat.add_le_add_iff_right] at h;by_cases hc:c = 38
     · subst hc;rw [Tk_amp];have h1:=(sgn_len (38 :: r)).1;have h2:=ih (r.drop ((sgn (38 :: r)).2.1 - 1)) (by simp;omega);simp only [List.length_append,List.length_drop,List.length_cons] at *;omega
     · rw [Tk_plain _ _ hc];have:=ih r h;simp only [List.length_cons];omega
def wht (c:UInt8):Bool:=decide (c.toNat = 9) || decide (c.toNat = 10) || decide (c.toNat = 12) || decide (c.toNat = 13) || decide (c.toNat = 32)
def fld (c:UInt8):UInt8:=if 65 ≤ c.toNat∧c.toNat ≤ 90 then c + 32 else c
def fold (l:List UInt8):List UInt8:=l.map fld
def lwr (c:UInt8):Bool:=decide (97 ≤ c.toNat) && decide (c.toNat ≤ 122)
def dgt (c:UInt8):Bool:=decide (48 ≤ c.toNat) && decide (c.toNat ≤ 57)
def ltr (c:UInt8):Bool:=lwr c || decide (65 ≤ c.toNat) && decide (c.toNat ≤ 90)
def nmc (c:UInt8):Bool:=lwr c || dgt c || decide (c.toNat = 45)
def isNm:List UInt8 → Bool
 | [] => false
 | c :: r => lwr c && r.all nmc && decide (r.length ≤ 19)
def wsl (c:UInt8):Bool:=wht c || decide (c.toNat = 47)
def nch (c:UInt8):Bool:=!wht c && decide (c.toNat ≠ 47) && decide (c.toNat ≠ 62) && decide (c.toNat ≠ 61)
def vch (c:UInt8):Bool:=!wht c && decide (c.toNat ≠ 62)
def tch (c:UInt8):Bool:=!wht c && decide (c.toNat ≠ 47) && decide (c.toNat ≠ 62)
abbrev Atr:=List UInt8 × List UInt8
abbrev Tok:=Int × List UInt8 × List Atr × List UInt8
def cutS (p:List UInt8):List UInt8 → Option (List UInt8)
 | [] => none
 | c :: r => if pre p (c :: r) then some ((c :: r).drop p.length) else cutS p r
def valOf (t:List UInt8):Option (List UInt8 × List UInt8) :=
 match t.dropWhile wht with
 | [] => some ([],[])
 | q :: r => if q = 34 ∨ q = 39 then (match r.dropWhile (· != q) with | [] => none | _ :: s => some (r.takeWhile (· != q),s)) else some ((q :: r).takeWhile vch,(q :: r).dropWhile vch)
def oneAt (c:UInt8) (r:List UInt8):Option (Atr × List UInt8) :=
 match (r.dropWhile nch).dropWhile wht with
 | [] => some ((fold (c :: r.takeWhile nch),[]),[])
 | d :: s => if d = 61 then (match valOf s with | none => none | some (v,u) => some ((fold (c :: r.takeWhile nch),(Tk v).1),u)) else some ((fold (c :: r.takeWhile nch),[]),d :: s)
def addA (out:List Atr) (a:Atr):List Atr:=if isNm a.1 && !(out.any fun x => x.1 == a.1) then out ++ [a] else out
def atF:Nat → List UInt8 → List Atr → Option (List Atr × List UInt8)
 | 0,_,_ => none
 | k + 1, t, out => match t.dropWhile wsl with
   | [] => none
   | c :: r => if c = 62 then some (out, r) else match oneAt c r with
     | none => none
     | some (a,u) => atF k u (addA out a)
def atP (t:List UInt8) (out:List Atr):Option (List Atr × List UInt8):=atF (t.length + 1) t out
theorem dw_len {p:UInt8 → Bool} (l:List UInt8):(l.dropWhile p).length ≤ l.length:=(List.dropWhile_suffix p).length_le
theorem cutS_len (p:List UInt8) (hp:0 < p.length):∀ l r:List UInt8,cutS p l = some r → r.length < l.length:=by
 intro l;induction l with
 | nil => intro r h;simp [cutS] at h
 | cons c l ih =>
   intro r h;unfold cutS at h;split at h
   · cases h;simp;omega
   · have:=ih r h;simp;omega
theorem valOf_len (t:List UInt8) (v u:List UInt8) (h:valOf t = some (v,u)):u.length ≤ t.length∧v.length ≤ t.length:=by
 have h1:=dw_len (p:=wht) t;unfold valOf at h;split at h
 · simp only [Option.some.injEq,Prod.mk.injEq] at h;obtain ⟨rfl,rfl⟩:=h;simp
 · rename_i q r e;rw [e] at h1;simp only [List.length_cons] at h1;split at h
   · have h2:=dw_len (p:=(· != q)) r;split at h
     · cases h
     · rename_i x s e2;rw [e2] at h2;simp only [Option.some.injEq,Prod.mk.injEq] at h;obtain ⟨rfl,rfl⟩:=h;have h3:(r.takeWhile (· != q)).length ≤ r.length:=(List.takeWhile_prefix _).length_le;simp only [List.length_cons] at h2;omega
   · simp only [Option.some.injEq,Prod.mk.injEq] at h;obtain ⟨rfl,rfl⟩:=h;have h2:=dw_len (p:=vch) (q :: r);have h3:((q :: r).takeWhile vch).length ≤ (q :: r).length:=(List.takeWhile_prefix _).length_le;simp only [List.length_cons] at h2 h3 ⊢;omega
theorem oneAt_len (c:UInt8) (r:List UInt8) (a:Atr) (u:List UInt8) (h:oneAt c r = some (a,u)):u.length ≤ r.length:=by
 have h1:=dw_len (p:=wht) (r.dropWhile nch);have h2:=dw_len (p:=nch) r;unfold oneAt at h;split at h
 · simp only [Option.some.injEq,Prod.mk.injEq] at h;obtain ⟨_,rfl⟩:=h;simp
 · rename_i d s e;rw [e] at h1;simp only [List.length_cons] at h1;split at h
   · split at h
     · cases h
     · rename_i v w e2;simp only [Option.some.injEq,Prod.mk.injEq] at h;obtain ⟨_,rfl⟩:=h;have:=(valOf_len _ _ _ e2).1;omega
   · simp only [Option.some.injEq,Prod.mk.injEq] at h;obtain ⟨_,rfl⟩:=h;simp only [List.length_cons];omega
theorem atF_two (k:Nat):∀ (j:Nat) (t:List UInt8) (out:List Atr),t.length < k → t.length < j → atF k t out = atF j t out:=by
 induction k with
 | zero => intro j t out h;omega
 | succ k ih =>
   intro j t out h h';cases j with
   | zero => omega
   | succ j =>
     have h1:=dw_len (p:=wsl) t;unfold atF;split
     · rfl
     · rename_i c r e;rw [e] at h1;simp only [List.length_cons] at h1;split
       · rfl
       · split
         · rfl
         · rename_i a u e2;have:=oneAt_len c r a u e2;exact ih j u _ (by omega) (by omega)
theorem atF_eq (k:Nat) (t:List UInt8) (out:List Atr) (h:t.length < k):atF k t out = atP t out:=atF_two k _ t out h (Nat.lt_succ_self _)
theorem atP_nil {t:List UInt8} {out:List Atr} (h:t.dropWhile wsl = []):atP t out = none:=by
 unfold atP atF;rw [h]
theorem atP_end {t r:List UInt8} {out:List Atr} (h:t.dropWhile wsl = 62 :: r):atP t out = some (out,r):=by
 unfold atP atF;rw [h];rfl
theorem atP_no {t r:List UInt8} {c:UInt8} {out:List Atr} (h:t.dropWhile wsl = c :: r) (hc:c ≠ 62) (h2:oneAt c r = none):atP t out = none:=by
 unfold atP atF;rw [h];simp only [if_neg hc,h2]
theorem atP_go {t r u:List UInt8} {c:UInt8} {a:Atr} {out:List Atr} (h:t.dropWhile wsl = c :: r) (hc:c ≠ 62) (h2:oneAt c r = some (a,u)):atP t out = atP u (addA out a):=by
 have h1:=dw_len (p:=wsl) t;have h3:=oneAt_len c r a u h2;rw [h] at h1;simp only [List.length_cons] at h1;conv => lhs;unfold atP atF
 rw [h];simp only [if_neg hc,h2];exact atF_eq _ _ _ (by omega)
theorem atF_len (k:Nat):∀ (t:List UInt8) (out l:List Atr) (r:List UInt8),atF k t out = some (l,r) → r.length < t.length:=by
 induction k with
 | zero => intro t out l r h;simp [atF] at h
 | succ k ih =>
   intro t out l r h;have h1:=dw_len (p:=wsl) t;unfold atF at h;split at h
   · cases h
   · rename_i c s e;rw [e] at h1;simp only [List.length_cons] at h1;split at h
     · simp only [Option.some.injEq,Prod.mk.injEq] at h;obtain ⟨_,rfl⟩:=h;omega
     · split at h
       · cases h
       · rename_i a u e2;have h3:=oneAt_len c s a u e2;have:=ih u _ l r h;omega
def tagP:List UInt8 → Option (Option (Option Tok × List UInt8))
 | [] => none
 | c :: r =>
   if ltr c then some ((atP ((c :: r).dropWhile tch) []).map fun x => (some (2,fold ((c :: r).takeWhile tch),x.1,[]),x.2))
   else if c = 47∧(r.head?.map ltr).getD false = true then some ((cutS [62] (r.dropWhile tch)).map fun x => (some (3,fold (r.takeWhile tch),[],[]),x))
   else if pre [33,45,45] (c :: r) then some ((cutS [45,45,62] r).map fun x => (none,x))
   else if c = 33 ∨ c = 63 ∨ c = 47 then some ((cutS [62] (c :: r)).map fun x => (none,x))
   else none
theorem tagP_cons (c:UInt8) (r:List UInt8):tagP (c :: r) =
 if ltr c then some ((atP ((c :: r).dropWhile tch) []).map fun x => (some (2,fold ((c :: r).takeWhile tch),x.1,[]),x.2))
 else if c = 47∧(r.head?.map ltr).getD false = true then some ((cutS [62] (r.dropWhile tch)).map fun x => (some (3,fold (r.takeWhile tch),[],[]),x))
 else if pre [33,45,45] (c :: r) then some ((cutS [45,45,62] r).map fun x => (none,x))
 else if c = 33 ∨ c = 63 ∨ c = 47 then some ((cutS [62] (c :: r)).map fun x => (none,x))
 else none:=rfl
theorem tagP_len (t:List UInt8) (o:Option Tok) (r:List UInt8) (h:tagP t = some (some (o,r))):r.length ≤ t.length:=by
 unfold tagP at h;split at h
 · cases h
 · rename_i c s;have h1:=dw_len (p:=tch) (c :: s);have h2:=dw_len (p:=tch) s;split at h
   · cases e:atP ((c :: s).dropWhile tch) [] with
     | none => rw [e] at h;simp at h
     | some x =>
       rw [e] at h;simp only [Option.map_some,Option.some.injEq,Prod.mk.injEq] at h;obtain ⟨_,rfl⟩:=h;have:=atF_len _ _ _ _ _ e;simp only [List.length_cons] at *;omega
   split at h
   · cases e:cutS [62] (s.dropWhile tch) with
     | none => rw [e] at h;simp at h
     | some x =>
       rw [e] at h;simp only [Option.map_some,Option.some.injEq,Prod.mk.injEq] at h;obtain ⟨_,rfl⟩:=h;have:=cutS_len [62] (by simp) _ _ e;simp only [List.length_cons] at *;omega
   split at h
   · cases e:cutS [45,45,62] s with
     | none => rw [e] at h;simp at h
     | some x =>
       rw [e] at h;simp only [Option.map_some,Option.some.injEq,Prod.mk.injEq] at h;obtain ⟨_,rfl⟩:=h;have:=cutS_len [45,45,62] (by simp) _ _ e;simp only [List.length_cons] at *;omega
   split at h
   · cases e:cutS [62] (c :: s) with
     | none => rw [e] at h;simp at h
     | some x =>
       rw [e] at h;simp only [Option.map_some,Option.some.injEq,Prod.mk.injEq] at h;obtain ⟨_,rfl⟩:=h;have:=cutS_len [62] (by simp) _ _ e;omega
   · cases h
def flsh (text:List UInt8) (out:List Tok):List Tok:=if (Tk text).1 = [] then out else out ++ [(1,[],[],(Tk text).1)]
def tkF:Nat → List UInt8 → List UInt8 → List Tok → List Tok
 | 0,_,text,out => flsh text out
 | _ + 1,[],text,out => flsh text out
 | k + 1, c :: r, text, out =>
   if c = 60 then match tagP r with
    | none => tkF k r (text ++ [60]) out
    | some none => flsh (text ++ 60 :: r) out
    | some (some (none,u)) => tkF k u text out
    | some (some (some t,u)) => if isNm t.2.1 then tkF k u [] (flsh text out ++ [t]) else tkF k u text out
   else tkF k r (text ++ [c]) out
def tkP (s text:List UInt8) (out:List Tok):List Tok:=tkF s.length s text out
def TokL (s:List UInt8):List Tok:=tkP s [] []
theorem tkF_two (k:Nat):∀ (j:Nat) (s text:List UInt8) (out:List Tok),s.length ≤ k → s.length ≤ j → tkF k s text out = tkF j s text out:=by
 induction k with
 | zero =>
   intro j s text out h _;obtain rfl:=List.eq_nil_of_length_eq_zero (Nat.le_zero.1 h);cases j <;> rfl
 | succ k ih =>
   intro j s text out h h';cases s with
   | nil => cases j <;> rfl
   | cons c r =>
     cases j with
     | zero => simp at h'
     | succ j =>
       simp only [List.length_cons,Nat.add_le_add_iff_right] at h h';unfold tkF;split
       · split
         · exact ih j _ _ _ h h'
         · rfl
         · rename_i u e;have:=tagP_len _ _ _ e;exact ih j _ _ _ (by omega) (by omega)
         · rename_i t u e;have:=tagP_len _ _ _ e;split <;> exact ih j _ _ _ (by omega) (by omega)
       · exact ih j _ _ _ h h'
theorem tkF_eq (k:Nat) (s text:List UInt8) (out:List Tok) (h:s.length ≤ k):tkF k s text out = tkP s text out:=tkF_two k _ s text out h (Nat.le_refl _)
theorem tkP_nil (text:List UInt8) (out:List Tok):tkP [] text out = flsh text out:=rfl
theorem tkP_plain (c:UInt8) (r text:List UInt8) (out:List Tok) (h:c ≠ 60):tkP (c :: r) text out = tkP r (text ++ [c]) out:=by
 conv => lhs;unfold tkP;rw [List.length_cons];unfold tkF
 rw [if_neg h];rfl
theorem tkP_run (p r text:List UInt8) (out:List Tok) (h:60 ∉ p):tkP (p ++ r) text out = tkP r (text ++ p) out:=by
 induction p generalizing text with
 | nil => simp
 | cons c p ih =>
   simp only [List.mem_cons,not_or] at h;rw [List.cons_append,tkP_plain _ _ _ _ (fun e => h.1 e.symm),ih _ h.2];simp
theorem tkP_lone (r text:List UInt8) (out:List Tok) (h:tagP r = none):tkP (60 :: r) text out = tkP r (text ++ [60]) out:=by
 conv => lhs;unfold tkP;rw [List.length_cons];unfold tkF
 rw [if_pos rfl,h];rfl
theorem tkP_open (r text:List UInt8) (out:List Tok) (h:tagP r = some none):tkP (60 :: r) text out = flsh (text ++ 60 :: r) out:=by
 conv => lhs;unfold tkP;rw [List.length_cons];unfold tkF
 rw [if_pos rfl,h]
theorem tkP_skip (r u text:List UInt8) (out:List Tok) (h:tagP r = some (some (none,u))):tkP (60 :: r) text out = tkP u text out:=by
 have:=tagP_len _ _ _ h;conv => lhs;unfold tkP;rw [List.length_cons];unfold tkF
 rw [if_pos rfl,h];exact tkF_eq _ _ _ _ this
theorem tkP_tag (r u text:List UInt8) (t:Tok) (out:List Tok) (h:tagP r = some (some (some t,u))) (hn:isNm t.2.1 = true):tkP (60 :: r) text out = tkP u [] (flsh text out ++ [t]):=by
 have:=tagP_len _ _ _ h;conv => lhs;unfold tkP;rw [List.length_cons];unfold tkF
 rw [if_pos rfl,h];simp only [hn,if_true];exact tkF_eq _ _ _ _ this
theorem tkP_tagno (r u text:List UInt8) (t:Tok) (out:List Tok) (h:tagP r = some (some (some t,u))) (hn:isNm t.2.1 = false):tkP (60 :: r) text out = tkP u text out:=by
 have:=tagP_len _ _ _ h;conv => lhs;unfold tkP;rw [List.length_cons];unfold tkF
 rw [if_pos rfl,h];simp only [hn,Bool.false_eq_true,if_false];exact tkF_eq _ _ _ _ this
def atEF:List Atr → List Atr → Int
 | _,[] => 0
 | p,a :: l => if isNm a.1 = false then 1 else if (p.any fun x => x.1 == a.1) then 6 else atEF (p ++ [a]) l
def atE (l:List Atr):Int:=atEF [] l
def tkE (t:Tok):Int :=
 if t.1 < 1 ∨ 3 < t.1 then 7
 else if t.1 = 1∧(t.2.1 ≠ [] ∨ t.2.2.1 ≠ [] ∨ t.2.2.2 = []) ∨ t.1 ≠ 1∧t.2.2.2 ≠ [] ∨ t.1 = 3∧t.2.2.1 ≠ [] then 1
 else if t.1 = 1 then 0 else if isNm t.2.1 = false then 1 else atE t.2.2.1
def tkEF:Int → List Tok → Int
 | _,[] => 0
 | k,t :: l => if tkE t ≠ 0 then tkE t else if t.1 = 1∧k = 1 then 4 else tkEF t.1 l
def ckE (l:List Tok):Int:=if 3000 < l.length then 2 else tkEF 0 l
def atW (l:List Atr):List UInt8:=l.flatMap fun a => 32 :: a.1 ++ [61,34] ++ PutL a.2 ++ [34]
def tkW (t:Tok):List UInt8:=if t.1 = 1 then PutL t.2.2.2 else if t.1 = 2 then 60 :: t.2.1 ++ atW t.2.2.1 ++ [62] else if t.1 = 3 then [60,47] ++ t.2.1 ++ [62] else []
def tksW (l:List Tok):List UInt8:=l.flatMap tkW
theorem isNm_ne {n:List UInt8} (h:isNm n = true):n ≠ []:=by rintro rfl;simp [isNm] at h
inductive Nd where
 | mk (n:List UInt8) (a:List Atr) (x:List UInt8) (k:List Nd)
def Nd.n:Nd → List UInt8 | .mk n _ _ _ => n
def Nd.a:Nd → List Atr | .mk _ a _ _ => a
def Nd.x:Nd → List UInt8 | .mk _ _ x _ => x
def Nd.k:Nd → List Nd | .mk _ _ _ k => k
theorem Nd.ind {P:List Nd → Prop} (h0:P []) (h1:∀ n a x k l,P k → P l → P (.mk n a x k :: l)) (l:List Nd):P l :=
 Nd.rec_1 (motive_1:=fun d => P d.k) (motive_2:=P) (fun _ _ _ _ ih => ih) h0 (fun d l i1 i2 => by cases d;exact h1 _ _ _ _ _ i1 i2) l
abbrev Nm:=List UInt8
def sP:Nm:=[112]
def sLi:Nm:=[108,105]
def sUl:Nm:=[117,108]
def sOl:Nm:=[111,108]
def sBq:Nm:=[98,108,111,99,107,113,117,111,116,101]
def sBr:Nm:=[98,114]
def sHr:Nm:=[104,114]
def sImg:Nm:=[105,109,103]
def emptyN (n:Nm):Bool:=decide (n = sBr) || decide (n = sHr) || decide (n = sImg)
def ulolN (n:Nm):Bool:=decide (n = sUl) || decide (n = sOl)
def wallN (n:Nm):Bool:=decide (n = sUl) || decide (n = sOl) || decide (n = sLi) || decide (n = sBq)
def blkN (n:Nm):Bool:=wallN n || decide (n = sP) || decide (n = sHr)
def abv (nm:Nm) (stop:Nm → Bool):List Nm → Option Nat
 | [] => none
 | x :: r => if x = nm then some r.length else if stop x then none else abv nm stop r
def cls1 (r:List Nm) (nm:Nm):Nat:=if blkN nm then (abv sP wallN r).getD r.length else r.length
def cls (r:List Nm) (nm:Nm):Nat:=if nm = sLi then (abv sLi ulolN (r.drop (r.length - cls1 r nm))).getD (cls1 r nm) else cls1 r nm
def pt (l:List Nd) (d:Nd):List Nd :=
 match l.getLast? with
 | some (.mk [] a x k) => if d.n = [] then l.dropLast ++ [.mk [] a (x ++ d.x) k] else l ++ [d]
 | _ => l ++ [d]
abbrev St:=List Nd × List (Nm × List Atr × List Nd)
def put (s:St) (d:Nd):St:=match s with
 | (r,[]) => (pt r d,[])
 | (r,(n,a,k) :: f) => (r,(n,a,pt k d) :: f)
def pop (s:St):St:=match s with
 | (r,[]) => (r,[])
 | (r,(n,a,k) :: f) => put (r,f) (.mk n a [] k)
def pops:Nat → St → St
 | 0,s => s
 | j + 1,s => pops j (pop s)
def nms (s:St):List Nm:=s.2.map (·.1)
def opn (s:St) (n:Nm) (a:List Atr):St :=
 if s.2.length = 8 then s else if emptyN n then put s (.mk n a [] []) else (s.1,(n,a,[]) :: s.2)
def stp (s:St) (t:Tok):St :=
 if t.1 = 1 then put s (.mk [] [] t.2.2.2 [])
 else if t.1 = 2 then opn (pops (s.2.length - cls (nms s) t.2.1) s) t.2.1 t.2.2.1
 else if t.1 = 3 then (match abv t.2.1 (fun _ => false) (nms s) with | some i => pops (s.2.length - i) s | none => s)
 else s
def fin (s:St):List Nd:=(pops s.2.length s).1
def ofM (l:List Tok):List Nd:=fin (l.foldl stp ([],[]))
mutual
def fltN:Nd → List Tok
 | .mk n a x k => if n = [] then [(1,[],[],x)] else (2,n,a,[]) :: (if emptyN n then [] else fltL k ++ [(3,n,[],[])])
def fltL:List Nd → List Tok
 | [] => []
 | d :: l => fltN d ++ fltL l
end
mutual
def manyN (f:Nat):Nd → Nat
 | .mk n _ _ k => if n = [] then 1 else match f with | 0 => 1 | f + 1 => 1 + manyL f k
def manyL (f:Nat):List Nd → Nat
 | [] => 0
 | d :: l => manyN f d + manyL f l
end
mutual
def deepN (f:Nat):Nd → Nat
 | .mk n _ _ k => if n = [] then 0 else match f with | 0 => 1 | f + 1 => 1 + deepL f k
def deepL (f:Nat):List Nd → Nat
 | [] => 0
 | d :: l => max (deepN f d) (deepL f l)
end
def ndE (r:List Nm):Nd → Int
 | .mk n a x k => if n = [] then (if x = [] ∨ a ≠ [] ∨ k ≠ [] then 1 else 0)
   else if x ≠ [] ∨ isNm n = false ∨ (emptyN n = true∧k ≠ []) then 1 else if atE a ≠ 0 then atE a else if cls r n < r.length then 4 else 0
mutual
def ckN (r:List Nm) (prev:Bool):Nd → Int
 | .mk n a x k => if ndE r (.mk n a x k) ≠ 0 then ndE r (.mk n a x k) else if prev = true∧n = [] then 4 else ckL (n :: r) false k
def ckL (r:List Nm) (prev:Bool):List Nd → Int
 | [] => 0
 | d :: l => if ckN r prev d ≠ 0 then ckN r prev d else ckL r (decide (d.n = [])) l
end
def ckT (l:List Nd):Int:=if 3000 < manyL 8 l ∨ 8 < deepL 8 l then 2 else ckL [] false l
mutual
def ntxN:Nd → List UInt8
 | .mk _ _ x k => x ++ ntxL k
def ntxL:List Nd → List UInt8
 | [] => []
 | d :: l => ntxN d ++ ntxL l
end
theorem pops_zero (s:St):pops 0 s = s:=rfl
theorem pops_succ (j:Nat) (s:St):pops (j + 1) s = pops j (pop s):=rfl
theorem put_len (s:St) (d:Nd):(put s d).2.length = s.2.length:=by
 unfold put;split <;> simp
theorem put_nms (s:St) (d:Nd):nms (put s d) = nms s:=by
 unfold put nms;split <;> simp
theorem pop_nms (s:St):nms (pop s) = (nms s).drop 1:=by
 unfold pop;split
 · rfl
 · rw [put_nms];simp [nms]
theorem pops_nms (j:Nat):∀ s:St,nms (pops j s) = (nms s).drop j:=by
 induction j with
 | zero => intro s;rfl
 | succ j ih => intro s;rw [pops_succ,ih,pop_nms,List.drop_drop,Nat.add_comm]
theorem nms_len (s:St):(nms s).length = s.2.length:=by simp [nms]
theorem pops_add (i j:Nat):∀ s:St,pops (i + j) s = pops j (pops i s):=by
 induction i with
 | zero => intro s;simp [pops_zero]
 | succ i ih => intro s;rw [Nat.succ_add,pops_succ,pops_succ,ih]
theorem pops_len (j:Nat) (s:St):(pops j s).2.length = s.2.length - j:=by
 rw [← nms_len,pops_nms,List.length_drop,nms_len]
theorem fin_pops (j:Nat) (s:St) (h:j ≤ s.2.length):fin (pops j s) = fin s:=by
 unfold fin;rw [pops_len,← pops_add,Nat.add_sub_cancel' h]
def setK (s:St) (o:List Nd):St:=match s with
 | (_,[]) => (o,[])
 | (r,(n,a,_) :: f) => (r,(n,a,o) :: f)
theorem put_setK (s:St) (o:List Nd) (d:Nd):put (setK s o) d = setK s (pt o d):=by
 unfold setK;split <;> rfl
theorem setK_nms (s:St) (o:List Nd):nms (setK s o) = nms s:=by
 unfold setK nms;split <;> simp
theorem setK_len (s:St) (o:List Nd):(setK s o).2.length = s.2.length:=by rw [← nms_len,setK_nms,nms_len]
theorem pt_el (o:List Nd) (d:Nd) (h:d.n ≠ []):pt o d = o ++ [d]:=by
 unfold pt;split
 · rw [if_neg h]
 · rfl
theorem abv_lt (nm:Nm) (stop:Nm → Bool):∀ (r:List Nm) (i:Nat),abv nm stop r = some i → i < r.length:=by
 intro r;induction r with
 | nil => intro i h;simp [abv] at h
 | cons x r ih =>
   intro i h;unfold abv at h;split at h
   · cases h;simp
   · split at h
     · cases h
     · have:=ih i h;simp;omega
theorem abv_drop (nm:Nm) (stop:Nm → Bool):∀ (r:List Nm) (i:Nat),abv nm stop r = some i → ∃ p,r = p ++ nm :: r.drop (r.length - i):=by
 intro r;induction r with
 | nil => intro i h;simp [abv] at h
 | cons x r ih =>
   intro i h;have hlt:=abv_lt nm stop _ i h;unfold abv at h;split at h
   · rename_i e;subst e;cases h;refine ⟨[],?_⟩;rw [List.length_cons,Nat.add_sub_cancel_left];rfl
   · split at h
     · cases h
     · obtain ⟨p,hp⟩:=ih i h;have h2:=abv_lt nm stop _ i h;refine ⟨x :: p,?_⟩;rw [List.length_cons,show r.length + 1 - i = (r.length - i) + 1 by omega,List.drop_succ_cons,List.cons_append,← hp]
theorem cls1_le (r:List Nm) (nm:Nm):cls1 r nm ≤ r.length:=by
 unfold cls1;split
 · cases e:abv sP wallN r with
   | none => simp
   | some i => have:=abv_lt _ _ _ _ e;simp;omega
 · exact Nat.le_refl _
theorem cls_le1 (r:List Nm) (nm:Nm):cls r nm ≤ cls1 r nm:=by
 unfold cls;split
 · cases e:abv sLi ulolN (r.drop (r.length - cls1 r nm)) with
   | none => simp
   | some i => have:=abv_lt _ _ _ _ e;have:=cls1_le r nm;simp at *;omega
 · exact Nat.le_refl _
theorem cls_le (r:List Nm) (nm:Nm):cls r nm ≤ r.length:=Nat.le_trans (cls_le1 r nm) (cls1_le r nm)
def Good:List Nm → Prop
 | [] => True
 | n :: r => cls r n = r.length∧Good r
theorem Good.drop {r:List Nm} (h:Good r) (j:Nat):Good (r.drop j):=by
 induction r generalizing j with
 | nil => simp [Good]
 | cons x r ih =>
   cases j with
   | zero => exact h
   | succ j => exact ih h.2 j
theorem Good.mid {p r:List Nm} {n:Nm} (h:Good (p ++ n :: r)):cls r n = r.length:=by
 have:=h.drop p.length;rw [List.drop_left] at this;exact this.1
theorem cls_p_none {r:List Nm} (h:cls r sP = r.length):abv sP wallN r = none:=by
 cases e:abv sP wallN r with
 | none => rfl
 | some i =>
   have h1:=abv_lt _ _ _ _ e;have h2:=cls_le1 r sP;have h3:cls1 r sP = i:=by unfold cls1;rw [e];simp [blkN]
   omega
theorem cls1_idem (r:List Nm) (nm:Nm) (hg:Good r):cls1 (r.drop (r.length - cls1 r nm)) nm = cls1 r nm:=by
 have hle:=cls1_le r nm;by_cases hb:blkN nm = true
 · cases e:abv sP wallN r with
   | none =>
     have h1:cls1 r nm = r.length:=by unfold cls1;rw [if_pos hb,e];rfl
     rw [h1,Nat.sub_self,List.drop_zero,h1]
   | some i =>
     have h1:cls1 r nm = i:=by unfold cls1;rw [if_pos hb,e];rfl
     obtain ⟨p,hp⟩:=abv_drop _ _ _ _ e;have hi:=abv_lt _ _ _ _ e;rw [h1] at *;rw [hp] at hg;have hn:=cls_p_none hg.mid;unfold cls1;rw [if_pos hb,hn];simp;omega
 · have h1:cls1 r nm = r.length:=by unfold cls1;rw [if_neg hb]
   rw [h1,Nat.sub_self,List.drop_zero,h1]
theorem cls_idem (r:List Nm) (nm:Nm) (hg:Good r):cls (r.drop (r.length - cls r nm)) nm = cls r nm:=by
 have hle:=cls_le r nm;have hle1:=cls1_le r nm;have hid:=cls1_idem r nm hg;by_cases hl:nm = sLi
 · cases e:abv sLi ulolN (r.drop (r.length - cls1 r nm)) with
   | none =>
     have h1:cls r nm = cls1 r nm:=by unfold cls;rw [if_pos hl,e];rfl
     rw [h1];conv => lhs;unfold cls
     rw [if_pos hl,hid];have hlen:(r.drop (r.length - cls1 r nm)).length = cls1 r nm:=by simp;omega
     rw [hlen,Nat.sub_self,List.drop_zero,e];rfl
   | some i =>
     have h1:cls r nm = i:=by unfold cls;rw [if_pos hl,e];rfl
     have hi:=abv_lt _ _ _ _ e;have hlen:(r.drop (r.length - cls1 r nm)).length = cls1 r nm:=by simp;omega
     rw [hlen] at hi;obtain ⟨p,hp⟩:=abv_drop _ _ _ _ e;rw [hlen,List.drop_drop,show r.length - cls1 r nm + (cls1 r nm - i) = r.length - i by omega] at hp;have hg1:=hg.drop (r.length - cls1 r nm);rw [hp] at hg1;have:=hg1.mid;rw [h1,hl,this];simp;omega
 · have h1:cls r nm = cls1 r nm:=by unfold cls;rw [if_neg hl]
   rw [h1];conv => lhs;unfold cls
   rw [if_neg hl,hid]
def bld:Nat → List Nm → List Tok → List Nd → List Nd × List Tok × Nat
 | 0,r,l,out => (out,l,r.length)
 | _ + 1,r,[],out => (out,[],r.length)
 | k + 1, r, t :: l, out =>
   if t.1 = 1 then bld k r l (pt out (.mk [] [] t.2.2.2 []))
   else if t.1 = 3 then (match abv t.2.1 (fun _ => false) r with | some i => (out,l,i) | none => bld k r l out)
   else if cls r t.2.1 < r.length then (out,t :: l,cls r t.2.1)
   else if r.length = 8 then bld k r l out
   else if emptyN t.2.1 = true then bld k r l (out ++ [.mk t.2.1 t.2.2.1 [] []])
   else if (bld k (t.2.1 :: r) l []).2.2 < r.length then (out ++ [.mk t.2.1 t.2.2.1 [] (bld k (t.2.1 :: r) l []).1],(bld k (t.2.1 :: r) l []).2.1,(bld k (t.2.1 :: r) l []).2.2)
   else bld k r (bld k (t.2.1 :: r) l []).2.1 (out ++ [.mk t.2.1 t.2.2.1 [] (bld k (t.2.1 :: r) l []).1])
def TOk (t:Tok):Prop:=(t.1 = 1 ∨ t.1 = 2 ∨ t.1 = 3)∧(t.1 = 2 → t.2.1 ≠ [])
theorem bld_run (k:Nat):∀ (r:List Nm) (l:List Tok) (out:List Nd),l.length ≤ k → Good r → (∀ t ∈ l,TOk t) →
 (bld k r l out).2.1.length ≤ l.length∧(bld k r l out).2.2 ≤ r.length∧((bld k r l out).2.2 = r.length → (bld k r l out).2.1 = [])∧(∀ t ∈ (bld k r l out).2.1,TOk t) ∧
 ∀ s:St,nms s = r → fin (l.foldl stp (setK s out)) = fin ((bld k r l out).2.1.foldl stp (pops (r.length - (bld k r l out).2.2) (setK s (bld k r l out).1))):=by
 induction k with
 | zero =>
   intro r l out hl hg ht;obtain rfl:=List.eq_nil_of_length_eq_zero (Nat.le_zero.1 hl);simp [bld,pops_zero]
 | succ k ih =>
   intro r l out hl hg ht;cases l with
   | nil => simp [bld,pops_zero]
   | cons t l =>
     simp only [List.length_cons,Nat.add_le_add_iff_right] at hl;obtain ⟨hk,hn⟩:=ht t (by simp);have ht':∀ u ∈ l,TOk u:=fun u hu => ht u (by simp [hu])
     unfold bld;by_cases h1:t.1 = 1
     · rw [if_pos h1];obtain ⟨a,b,c,d,e⟩:=ih r l (pt out (.mk [] [] t.2.2.2 [])) hl hg ht';refine ⟨by simp;omega,b,c,d,fun s hs => ?_⟩;rw [← e s hs,List.foldl_cons];congr 2;unfold stp;rw [if_pos h1,put_setK]
     rw [if_neg h1];by_cases h3:t.1 = 3
     · rw [if_pos h3];cases e3:abv t.2.1 (fun _ => false) r with
       | some i =>
         have hi:=abv_lt _ _ _ _ e3;simp only [];refine ⟨by simp,by omega,fun h => by omega,ht', fun s hs => ?_⟩;rw [List.foldl_cons];congr 2;unfold stp;rw [if_neg h1,if_neg (by omega),if_pos h3,setK_nms,hs,e3];simp only [setK_len];rw [← nms_len,hs]
       | none =>
         simp only [];obtain ⟨a,b,c,d,e⟩:=ih r l out hl hg ht';refine ⟨by simp;omega,b,c,d,fun s hs => ?_⟩;rw [← e s hs,List.foldl_cons];congr 2;unfold stp;rw [if_neg h1,if_neg (by omega),if_pos h3,setK_nms,hs,e3]
     rw [if_neg h3];have h2:t.1 = 2:=by omega
     by_cases hc:cls r t.2.1 < r.length
     · rw [if_pos hc];refine ⟨by simp,by simp;omega,fun h => by simp at h;omega,ht,fun s hs => ?_⟩;simp only [List.foldl_cons];congr 2;have hsl:s.2.length = r.length:=by rw [← nms_len,hs]
       unfold stp;rw [if_neg h1,if_pos h2,if_neg h1,if_pos h2];have hid:=cls_idem r t.2.1 hg;have e1:nms (pops (r.length - cls r t.2.1) (setK s out)) = r.drop (r.length - cls r t.2.1):=by rw [pops_nms,setK_nms,hs]
       have e2:(pops (r.length - cls r t.2.1) (setK s out)).2.length = cls r t.2.1:=by rw [pops_len,setK_len,hsl];omega
       rw [e1,e2,hid,Nat.sub_self,pops_zero,setK_nms,hs,setK_len,hsl]
     rw [if_neg hc];have hce:cls r t.2.1 = r.length:=by have:=cls_le r t.2.1;omega
     have hst:∀ s:St,nms s = r → stp (setK s out) t = opn (setK s out) t.2.1 t.2.2.1:=by
      intro s hs;unfold stp;rw [if_neg h1,if_pos h2,setK_nms,hs,hce,setK_len,← nms_len,hs,Nat.sub_self,pops_zero]
     by_cases h8:r.length = 8
     · rw [if_pos h8];obtain ⟨a,b,c,d,e⟩:=ih r l out hl hg ht';refine ⟨by simp;omega,b,c,d,fun s hs => ?_⟩;rw [← e s hs,List.foldl_cons,hst s hs];congr 2;unfold opn;rw [if_pos (by rw [setK_len,← nms_len,hs,h8])]
     rw [if_neg h8];have ho8:∀ s:St,nms s = r → ¬ (setK s out).2.length = 8:=by intro s hs;rw [setK_len,← nms_len,hs];exact h8
     by_cases hem:emptyN t.2.1 = true
     · rw [if_pos hem];obtain ⟨a,b,c,d,e⟩:=ih r l (out ++ [.mk t.2.1 t.2.2.1 [] []]) hl hg ht';refine ⟨by simp;omega,b,c,d,fun s hs => ?_⟩;rw [← e s hs,List.foldl_cons,hst s hs];congr 2;unfold opn;rw [if_neg (ho8 s hs),if_pos hem,put_setK,pt_el _ _ (by exact hn h2)]
     rw [if_neg hem];obtain ⟨a,b,c,d,e⟩:=ih (t.2.1 :: r) l [] hl ⟨hce,hg⟩ ht';obtain ⟨q,hq⟩:∃ q,q = bld k (t.2.1 :: r) l []:=⟨_,rfl⟩;rw [← hq] at a b c d e ⊢;have hop:∀ s:St,nms s = r → opn (setK s out) t.2.1 t.2.2.1 = setK ((setK s out).1,(t.2.1,t.2.2.1,[]) :: (setK s out).2) []:=by
      intro s hs;unfold opn;rw [if_neg (ho8 s hs),if_neg hem];rfl
     have hnm:∀ s:St,nms s = r → nms ((setK s out).1,(t.2.1,t.2.2.1,[]) :: (setK s out).2) = t.2.1 :: r:=by
      intro s hs;have:=setK_nms s out;rw [hs] at this;simp only [nms,List.map_cons] at this ⊢;rw [this]
     have hpop:∀ s:St,nms s = r → ∀ (v:List Nd),pop (setK ((setK s out).1,(t.2.1,t.2.2.1,[]) :: (setK s out).2) v) = setK s (out ++ [.mk t.2.1 t.2.2.1 [] v]):=by
      intro s hs v;show put ((setK s out).1,(setK s out).2) _ = _;rw [show ((setK s out).1,(setK s out).2) = setK s out from rfl,put_setK,pt_el _ _ (by exact hn h2)]
     simp only [List.length_cons] at b c e;by_cases hlt:q.2.2 < r.length
     · rw [if_pos hlt];refine ⟨by simp;omega,by simp;omega,fun h => by simp at h;omega,d,fun s hs => ?_⟩;rw [List.foldl_cons,hst s hs,hop s hs,e _ (hnm s hs)];congr 2;rw [show r.length + 1 - q.2.2 = (r.length - q.2.2) + 1 by omega,pops_succ,hpop s hs]
     · rw [if_neg hlt];obtain ⟨a', b', c', d', e'⟩:=ih r q.2.1 (out ++ [.mk t.2.1 t.2.2.1 [] q.1]) (by omega) hg d;refine ⟨by simp;omega,b', c', d', fun s hs => ?_⟩;rw [← e' s hs,List.foldl_cons,hst s hs,hop s hs,e _ (hnm s hs)];by_cases hfull:q.2.2 = r.length + 1
       · have:=c hfull;rw [this,hfull,Nat.sub_self,pops_zero];simp only [List.foldl_nil];rw [← hpop s hs,← fin_pops 1 _ (by simp [setK])];rfl
       · have:q.2.2 = r.length:=by omega
         congr 2;rw [this,show r.length + 1 - r.length = 0 + 1 by omega,pops_succ,pops_zero,hpop s hs]
theorem ofM_bld (l:List Tok) (ht:∀ t ∈ l,TOk t) (k:Nat) (hk:l.length ≤ k):(bld k [] l []).1 = ofM l:=by
 obtain ⟨a,b,c,d,e⟩:=bld_run k [] l [] hk trivial ht;have h0:(bld k [] l []).2.2 = 0:=by simpa using b
 have:=e ([],[]) rfl;rw [c (by rw [h0];rfl),h0] at this;unfold ofM;rw [show (([],[]):St) = setK ([],[]) [] from rfl,this];rfl
mutual
def dpN:Nd → Nat
 | .mk n _ _ k => if n = [] then 0 else 1 + dpL k
def dpL:List Nd → Nat
 | [] => 0
 | d :: l => max (dpN d) (dpL l)
end
mutual
def cntN:Nd → Nat
 | .mk _ _ _ k => 1 + cntL k
def cntL:List Nd → Nat
 | [] => 0
 | d :: l => cntN d + cntL l
end
theorem dp_of (l:List Nd):∀ f,deepL f l ≤ f → dpL l ≤ f:=by
 induction l using Nd.ind with
 | h0 => intro f _;simp [dpL]
 | h1 n a x k l ik il =>
   intro f h;simp only [deepL,dpL,Nat.max_le,deepN,dpN] at h ⊢;refine ⟨?_,il f h.2⟩;split
   · omega
   · rename_i hn;rw [if_neg hn] at h;cases f with
     | zero => simp at h
     | succ f => have:=ik f (by have:=h.1;simp only [] at this;omega);omega
theorem deep_le (l:List Nd):∀ f,deepL f l ≤ dpL l:=by
 induction l using Nd.ind with
 | h0 => intro f;simp [deepL]
 | h1 n a x k l ik il =>
   intro f;have:=il f;simp only [deepL,dpL,deepN,dpN];by_cases hn:n = []
   · simp only [if_pos hn];omega
   · simp only [if_neg hn];cases f with
     | zero => simp only [];omega
     | succ f => have:=ik f;simp only [];omega
theorem many_le (l:List Nd):∀ f,manyL f l ≤ cntL l:=by
 induction l using Nd.ind with
 | h0 => intro f;simp [manyL]
 | h1 n a x k l ik il =>
   intro f;have:=il f;simp only [manyL,cntL,manyN,cntN];by_cases hn:n = []
   · simp only [if_pos hn];omega
   · simp only [if_neg hn];cases f with
     | zero => simp only [];omega
     | succ f => have:=ik f;simp only [];omega
def lastT (o:List Nd):Bool:=match o.getLast? with | some d => decide (d.n = []) | none => false
theorem lastT_snoc (o:List Nd) (d:Nd):lastT (o ++ [d]) = decide (d.n = []):=by simp [lastT]
theorem pt_no (o:List Nd) (d:Nd) (h:lastT o = false):pt o d = o ++ [d]:=by
 unfold pt;unfold lastT at h;split
 · rename_i a x k e;rw [e] at h;simp [Nd.n] at h
 · rfl
theorem ckL_cons {r:List Nm} {p:Bool} {d:Nd} {l:List Nd} (h:ckL r p (d :: l) = 0):ckN r p d = 0∧ckL r (decide (d.n = [])) l = 0:=by
 simp only [ckL] at h;split at h
 · rename_i a;exact absurd h a
 · rename_i a;exact ⟨Decidable.not_not.1 a,h⟩
theorem ckN_mk {r:List Nm} {p:Bool} {n:Nm} {a:List Atr} {x:List UInt8} {k:List Nd} (h:ckN r p (.mk n a x k) = 0):ndE r (.mk n a x k) = 0∧¬ (p = true∧n = [])∧ckL (n :: r) false k = 0:=by
 simp only [ckN] at h;split at h
 · rename_i a;exact absurd h a
 · rename_i a;split at h
   · simp at h
   · rename_i b;exact ⟨Decidable.not_not.1 a,b,h⟩
theorem ndE_tx {r:List Nm} {a:List Atr} {x:List UInt8} {k:List Nd} (h:ndE r (.mk [] a x k) = 0):x ≠ []∧a = []∧k = []:=by
 simp only [ndE,if_true] at h;split at h
 · simp at h
 rename_i h1;exact ⟨fun e => h1 (.inl e),Decidable.byContradiction fun e => h1 (.inr (.inl e)),Decidable.byContradiction fun e => h1 (.inr (.inr e))⟩
theorem ckT_zero {l:List Nd} (h:ckT l = 0):manyL 8 l ≤ 3000∧dpL l ≤ 8∧ckL [] false l = 0:=by
 unfold ckT at h;split at h
 · simp at h
 · rename_i h1;exact ⟨by omega,dp_of l 8 (by omega),h⟩
def IvF (m:Nat):List (Nm × List Atr × List Nd) → Prop
 | [] => True
 | (n,a,k) :: f => n ≠ []∧isNm n = true∧emptyN n = false∧atE a = 0∧cls (f.map (·.1)) n = f.length∧ckL (n :: f.map (·.1)) false k = 0∧f.length + 1 + dpL k ≤ 8∧IvF m f
def Iv (s:St):Prop:=IvF 0 s.2∧ckL [] false s.1 = 0∧dpL s.1 ≤ 8
theorem ckL_app (r:List Nm):∀ (l:List Nd) (p:Bool) (m:List Nd),ckL r p l = 0 → ckL r (if l = [] then p else lastT l) m = 0 → ckL r p (l ++ m) = 0:=by
 intro l;induction l with
 | nil => intro p m _ h;simpa using h
 | cons d l ih =>
   intro p m h hm;obtain ⟨h1,h2⟩:=ckL_cons h;simp only [List.cons_append,ckL];rw [if_neg (by simp [h1])];refine ih _ m h2 ?_;rw [if_neg (by simp)] at hm;split
   · rename_i e;subst e;simpa [lastT] using hm
   · rename_i e;have:lastT (d :: l) = lastT l:=by unfold lastT;rw [List.getLast?_cons];cases e2:l.getLast? with
      | none => simp at e2;exact absurd e2 e
      | some v => simp
     rw [← this];exact hm
theorem ckL_init (r:List Nm):∀ (l:List Nd) (p:Bool) (d:Nd),ckL r p (l ++ [d]) = 0 → ckL r p l = 0∧ckN r (if l = [] then p else lastT l) d = 0:=by
 intro l;induction l with
 | nil => intro p d h;exact ⟨rfl,(ckL_cons h).1⟩
 | cons c l ih =>
   intro p d h;obtain ⟨h1,h2⟩:=ckL_cons (l:=l ++ [d]) h;obtain ⟨g1,g2⟩:=ih _ d h2;refine ⟨?_,?_⟩
   · simp only [ckL];rw [if_neg (by simp [h1])];exact g1
   · rw [if_neg (by simp)];split at g2
     · rename_i e;subst e;simpa [lastT] using g2
     · rename_i e;have:lastT (c :: l) = lastT l:=by unfold lastT;rw [List.getLast?_cons];cases e2:l.getLast? with
        | none => simp at e2;exact absurd e2 e
        | some v => simp
       rw [this];exact g2
theorem ckN_any {r:List Nm} {p q:Bool} {d:Nd} (h:ckN r p d = 0) (hq:q = true → d.n ≠ []):ckN r q d = 0:=by
 cases d with
 | mk n a x k =>
   obtain ⟨h1,h2,h3⟩:=ckN_mk h;simp only [ckN];rw [if_neg (by simp [h1]),if_neg (by rintro ⟨a,b⟩;exact hq a b),h3]
theorem pt_ck (r:List Nm) (l:List Nd) (d:Nd) (h:ckL r false l = 0) (hd:ckN r false d = 0):ckL r false (pt l d) = 0:=by
 by_cases hT:lastT l = true∧d.n = []
 · obtain ⟨hT,hn⟩:=hT;rcases List.eq_nil_or_concat l with rfl | ⟨o,c,rfl⟩
   · simp [lastT] at hT
   · rw [List.concat_eq_append] at *;rw [lastT_snoc] at hT;cases c with
     | mk n a x k =>
       obtain rfl:n = []:=of_decide_eq_true hT;obtain ⟨g1,g2⟩:=ckL_init r o false _ h;obtain ⟨g3,g4,g5⟩:=ckN_mk g2;obtain ⟨g6,rfl,rfl⟩:=ndE_tx g3;have e:pt (o ++ [.mk [] [] x []]) d = o ++ [.mk [] [] (x ++ d.x) []]:=by
        unfold pt;simp [hn]
       rw [e];refine ckL_app r o false _ g1 ?_;simp only [ckL,ckN,ndE];have g7:¬ (if o = [] then false else lastT o) = true:=fun e => g4 ⟨e,rfl⟩
       simp [g6];intro e1 e2;rw [if_neg e1] at g7;exact absurd e2 g7
 · have hap:pt l d = l ++ [d]:=by
    by_cases hL:lastT l = true
    · exact pt_el l d (fun e => hT ⟨hL,e⟩)
    · exact pt_no l d (by simpa using hL)
   rw [hap];refine ckL_app r l false _ h ?_;have:ckN r (if l = [] then false else lastT l) d = 0:=by
    refine ckN_any hd (fun e => ?_);split at e
    · simp at e
    · exact fun e2 => hT ⟨e,e2⟩
   simp only [ckL];rw [if_neg (fun e => e this)]
theorem dp_app (l m:List Nd):dpL (l ++ m) = max (dpL l) (dpL m):=by
 induction l with
 | nil => simp [dpL]
 | cons d l ih => simp only [List.cons_append,dpL,ih];omega
theorem pt_dp (l:List Nd) (d:Nd) (m:Nat) (h:dpL l ≤ m) (hd:dpN d ≤ m):dpL (pt l d) ≤ m:=by
 unfold pt;split
 · rename_i a x k e;split
   · rcases List.eq_nil_or_concat l with rfl | ⟨o,c,rfl⟩
     · simp at e
     · simp only [List.concat_eq_append,List.getLast?_append,List.getLast?_singleton,Option.some_or,Option.some.injEq,List.dropLast_concat] at *;rw [dp_app] at *;simp [dpL,dpN] at *;omega
   · rw [dp_app];simp only [dpL];omega
 · rw [dp_app];simp only [dpL];omega
theorem iv_put {s:St} {d:Nd} (h:Iv s) (hd:ckN (nms s) false d = 0) (hp:s.2.length + dpN d ≤ 8):Iv (put s d):=by
 obtain ⟨r,f⟩:=s;cases f with
 | nil => exact ⟨trivial,pt_ck _ _ _ h.2.1 hd,pt_dp _ _ _ h.2.2 (by simpa using hp)⟩
 | cons c f =>
   obtain ⟨n,a,k⟩:=c;obtain ⟨⟨h1,h2,h3,h4,h5,h6,h7,h8⟩,g⟩:=h;simp only [List.length_cons] at hp;refine ⟨⟨h1,h2,h3,h4,h5,pt_ck _ _ _ h6 hd,?_,h8⟩,g⟩;have:=pt_dp k d (8 - (f.length + 1)) (by omega) (by omega);omega
theorem iv_pop {s:St} (h:Iv s):Iv (pop s):=by
 obtain ⟨r,f⟩:=s;cases f with
 | nil => exact h
 | cons c f =>
   obtain ⟨n,a,k⟩:=c;obtain ⟨⟨h1,h2,h3,h4,h5,h6,h7,h8⟩,g⟩:=h;refine iv_put (s:=(r,f)) ⟨h8,g⟩ ?_ ?_
   · show ckN (f.map (·.1)) false _ = 0;simp only [ckN,ndE,if_neg h1];rw [if_neg (show ¬ (([]:List UInt8) ≠ [] ∨ isNm n = false ∨ emptyN n = true∧k ≠ []) by simp [h2,h3])];simp [h4,h5,h6,h1]
   · simp only [dpN,if_neg h1];omega
theorem iv_pops (j:Nat):∀ {s:St},Iv s → Iv (pops j s):=by
 induction j with
 | zero => intro s h;exact h
 | succ j ih => intro s h;exact ih (iv_pop h)
theorem iv_good {m:Nat}:∀ {f:List (Nm × List Atr × List Nd)},IvF m f → Good (f.map (·.1)):=by
 intro f;induction f with
 | nil => intro _;trivial
 | cons c f ih =>
   obtain ⟨n,a,k⟩:=c;intro h;exact ⟨by simpa using h.2.2.2.2.1,ih h.2.2.2.2.2.2.2⟩
theorem iv_len {m:Nat} {f:List (Nm × List Atr × List Nd)} (h:IvF m f):f.length ≤ 8:=by
 cases f with
 | nil => simp
 | cons c f => obtain ⟨n,a,k⟩:=c;have:=h.2.2.2.2.2.2.1;simp;omega
theorem tkE_zero {t:Tok} (h:tkE t = 0):TOk t∧(t.1 = 1 → t.2.1 = []∧t.2.2.1 = []∧t.2.2.2 ≠ [])∧(t.1 ≠ 1 → t.2.2.2 = []∧isNm t.2.1 = true∧t.2.1 ≠ []∧atE t.2.2.1 = 0):=by
 unfold tkE at h;split at h
 · simp at h
 rename_i h1;split at h
 · simp at h
 rename_i h2;have e1:t.1 ≠ 1 → isNm t.2.1 = true∧atE t.2.2.1 = 0:=by
  intro e;rw [if_neg e] at h;split at h
  · simp at h
  · rename_i h3;exact ⟨by simpa using h3,h⟩
 refine ⟨⟨by omega,fun e => isNm_ne (e1 (by omega)).1⟩,fun e => ⟨?_,?_,?_⟩,fun e => ⟨?_,(e1 e).1,isNm_ne (e1 e).1,(e1 e).2⟩⟩
 · exact Decidable.byContradiction fun q => h2 (.inl ⟨e,.inl q⟩)
 · exact Decidable.byContradiction fun q => h2 (.inl ⟨e,.inr (.inl q)⟩)
 · exact fun q => h2 (.inl ⟨e,.inr (.inr q)⟩)
 · exact Decidable.byContradiction fun q => h2 (.inr (.inl ⟨e,q⟩))
theorem iv_stp {s:St} {t:Tok} (h:Iv s) (ht:tkE t = 0):Iv (stp s t):=by
 obtain ⟨hk,h1,h2⟩:=tkE_zero ht;unfold stp;by_cases e1:t.1 = 1
 · rw [if_pos e1];obtain ⟨g1,g2,g3⟩:=h1 e1;refine iv_put h ?_ ?_
   · simp [ckN,ndE,g3,ckL]
   · simp only [dpN,if_true];have:=iv_len h.1;omega
 rw [if_neg e1];obtain ⟨g1,g2,g3,g4⟩:=h2 e1;by_cases e2:t.1 = 2
 · rw [if_pos e2];have hP:=iv_pops (s.2.length - cls (nms s) t.2.1) h;obtain ⟨S,hS⟩:∃ S,S = pops (s.2.length - cls (nms s) t.2.1) s:=⟨_,rfl⟩;have hcl:cls (nms S) t.2.1 = S.2.length:=by
    rw [hS,pops_nms,pops_len,← nms_len,cls_idem (nms s) _ (iv_good h.1)];have:=cls_le (nms s) t.2.1;omega
   rw [← hS] at hP ⊢;unfold opn;have hl:=iv_len hP.1;split
   · exact hP
   rename_i h8;split
   · rename_i he;refine iv_put hP ?_ ?_
     · simp only [ckN,ndE,if_neg g3];rw [if_neg (show ¬ (([]:List UInt8) ≠ [] ∨ isNm t.2.1 = false ∨ emptyN t.2.1 = true∧([]:List Nd) ≠ []) by simp [g2])];rw [nms_len];simp [g4,hcl,ckL]
     · simp only [dpN,if_neg g3,dpL];omega
   · rename_i he;refine ⟨⟨g3,g2,by simpa using he,g4,hcl,rfl,by simp only [dpL];omega,hP.1⟩,hP.2⟩
 rw [if_neg e2];split
 · split
   · exact iv_pops _ h
   · exact h
 · exact h
theorem iv_foldl (l:List Tok):∀ {s:St},Iv s → (∀ t ∈ l,tkE t = 0) → Iv (l.foldl stp s):=by
 induction l with
 | nil => intro s h _;exact h
 | cons t l ih => intro s h ht;exact ih (iv_stp h (ht t (by simp))) (fun u hu => ht u (by simp [hu]))
theorem tkEF_each (l:List Tok):∀ k,tkEF k l = 0 → ∀ t ∈ l,tkE t = 0:=by
 induction l with
 | nil => intro k _ t ht;simp at ht
 | cons u l ih =>
   intro k h t ht;simp only [tkEF] at h;split at h
   · rename_i a;exact absurd h a
   rename_i a;split at h
   · simp at h
   rcases List.mem_cons.1 ht with rfl | ht
   · exact Decidable.not_not.1 a
   · exact ih _ h t ht
theorem ckE_all {l:List Tok} (h:ckE l = 0):l.length ≤ 3000∧∀ t ∈ l,tkE t = 0:=by
 unfold ckE at h;split at h
 · simp at h
 · exact ⟨by omega,tkEF_each l 0 h⟩
theorem cnt_app (l m:List Nd):cntL (l ++ m) = cntL l + cntL m:=by
 induction l with
 | nil => simp [cntL]
 | cons d l ih => simp only [List.cons_append,cntL,ih];omega
theorem pt_cnt (l:List Nd) (d:Nd):cntL (pt l d) ≤ cntL l + cntN d:=by
 unfold pt;split
 · rename_i a x k e;split
   · rcases List.eq_nil_or_concat l with rfl | ⟨o,c,rfl⟩
     · simp at e
     · simp only [List.concat_eq_append,List.getLast?_append,List.getLast?_singleton,Option.some_or,Option.some.injEq,List.dropLast_concat] at *;subst e;rw [cnt_app,cnt_app];simp only [cntL,cntN];omega
   · rw [cnt_app];simp [cntL]
 · rw [cnt_app];simp [cntL]
def cntF:List (Nm × List Atr × List Nd) → Nat
 | [] => 0
 | (_,_,k) :: f => 1 + cntL k + cntF f
def cntS (s:St):Nat:=cntL s.1 + cntF s.2
theorem put_cnt (s:St) (d:Nd):cntS (put s d) ≤ cntS s + cntN d:=by
 obtain ⟨r,f⟩:=s;cases f with
 | nil => have:=pt_cnt r d;simp only [put,cntS,cntF];omega
 | cons c f => obtain ⟨n,a,k⟩:=c;have:=pt_cnt k d;simp only [put,cntS,cntF];omega
theorem pop_cnt (s:St):cntS (pop s) ≤ cntS s:=by
 obtain ⟨r,f⟩:=s;cases f with
 | nil => exact Nat.le_refl _
 | cons c f =>
   obtain ⟨n,a,k⟩:=c;have:=put_cnt (r,f) (.mk n a [] k);simp only [pop,cntS,cntF,cntN] at *;omega
theorem pops_cnt (j:Nat):∀ s:St,cntS (pops j s) ≤ cntS s:=by
 induction j with
 | zero => intro s;exact Nat.le_refl _
 | succ j ih => intro s;exact Nat.le_trans (ih _) (pop_cnt s)
theorem stp_cnt (s:St) (t:Tok):cntS (stp s t) ≤ cntS s + 1:=by
 unfold stp;split
 · have:=put_cnt s (.mk [] [] t.2.2.2 []);simp only [cntN,cntL] at this;omega
 split
 · have h1:=pops_cnt (s.2.length - cls (nms s) t.2.1) s;unfold opn;split
   · omega
   split
   · have h2:=put_cnt (pops (s.2.length - cls (nms s) t.2.1) s) (.mk t.2.1 t.2.2.1 [] []);simp only [cntN,cntL] at h2;omega
   · simp only [cntS,cntF,cntL] at *;omega
 split
 · split
   · rename_i i _;have h1:=pops_cnt (s.2.length - i) s;omega
   · omega
 · omega
theorem foldl_cnt (l:List Tok):∀ s:St,cntS (l.foldl stp s) ≤ cntS s + l.length:=by
 induction l with
 | nil => intro s;exact Nat.le_refl _
 | cons t l ih => intro s;have:=ih (stp s t);have:=stp_cnt s t;simp only [List.foldl_cons,List.length_cons];omega
theorem iv_fin {s:St} (h:Iv s):ckL [] false (fin s) = 0∧dpL (fin s) ≤ 8:=(iv_pops s.2.length h).2
theorem fin_cnt (s:St):cntL (fin s) ≤ cntS s:=by
 have:=pops_cnt s.2.length s;unfold fin;unfold cntS at *;omega
theorem ckT_ofM (l:List Tok) (h:ckE l = 0):ckT (ofM l) = 0:=by
 obtain ⟨h1,h2⟩:=ckE_all h;have hI:=iv_fin (iv_foldl l (s:=([],[])) ⟨trivial,rfl,by simp [dpL]⟩ h2);have hc:=foldl_cnt l ([],[]);have hf:=fin_cnt (l.foldl stp ([],[]));have hm:=many_le (ofM l) 8;have hd:=deep_le (ofM l) 8;unfold ofM at *;simp only [cntS,cntL,cntF] at hc hf;unfold ckT;rw [if_neg (by omega)];exact hI.1
theorem ckE_tok {l:List Tok} (h:ckE l = 0):∀ t ∈ l,TOk t:=fun t ht => (tkE_zero ((ckE_all h).2 t ht)).1
theorem ntx_app (l m:List Nd):ntxL (l ++ m) = ntxL l ++ ntxL m:=by
 induction l with
 | nil => simp [ntxL]
 | cons d l ih => simp [ntxL,ih]
def Lf (l:List Nd):Prop:=∀ d ∈ l,d.n = [] → d.k = []
theorem ntx_pt (l:List Nd) (d:Nd) (hl:Lf l) (hd:d.n = [] → d.k = []):ntxL (pt l d) = ntxL l ++ ntxN d∧Lf (pt l d):=by
 have happ:ntxL (l ++ [d]) = ntxL l ++ ntxN d∧Lf (l ++ [d]):=by
  refine ⟨by simp [ntx_app,ntxL],fun c hc => ?_⟩;rcases List.mem_append.1 hc with hc | hc
  · exact hl c hc
  · rw [List.mem_singleton] at hc;subst hc;exact hd
 unfold pt;split
 · rename_i a x k e;split
   · rename_i hn;rcases List.eq_nil_or_concat l with rfl | ⟨o,c,rfl⟩
     · simp at e
     · simp only [List.concat_eq_append,List.getLast?_append,List.getLast?_singleton,Option.some_or,Option.some.injEq,List.dropLast_concat] at *;subst e;have hk:k = []:=hl (.mk [] a x k) (by simp) rfl;subst hk;have h2:=hd hn;cases d with
       | mk n' a' x' k' =>
         simp only [Nd.k] at h2;subst h2;refine ⟨by simp [ntx_app,ntxL,ntxN,Nd.x],fun c hc => ?_⟩;rcases List.mem_append.1 hc with hc | hc
         · exact hl c (List.mem_append_left _ hc)
         · rw [List.mem_singleton] at hc;subst hc;intro _;rfl
   · exact happ
 · exact happ
def ntxF:List (Nm × List Atr × List Nd) → List UInt8
 | [] => []
 | (_,_,k) :: f => ntxF f ++ ntxL k
def ntxS (s:St):List UInt8:=ntxL s.1 ++ ntxF s.2
def LfF:List (Nm × List Atr × List Nd) → Prop
 | [] => True
 | (n,_,k) :: f => n ≠ []∧Lf k∧LfF f
def LfS (s:St):Prop:=Lf s.1∧LfF s.2
theorem put_txt {s:St} {d:Nd} (h:LfS s) (hd:d.n = [] → d.k = []):ntxS (put s d) = ntxS s ++ ntxN d∧LfS (put s d):=by
 obtain ⟨r,f⟩:=s;cases f with
 | nil =>
   obtain ⟨e,g⟩:=ntx_pt r d h.1 hd;exact ⟨by simp [put,ntxS,ntxF,e],g,trivial⟩
 | cons c f =>
   obtain ⟨n,a,k⟩:=c;obtain ⟨e,g⟩:=ntx_pt k d h.2.2.1 hd;exact ⟨by simp [put,ntxS,ntxF,e],h.1,h.2.1,g,h.2.2.2⟩
theorem pop_txt {s:St} (h:LfS s):ntxS (pop s) = ntxS s∧LfS (pop s):=by
 obtain ⟨r,f⟩:=s;cases f with
 | nil => exact ⟨rfl,h⟩
 | cons c f =>
   obtain ⟨n,a,k⟩:=c;obtain ⟨e,g⟩:=put_txt (s:=(r,f)) (d:=.mk n a [] k) ⟨h.1,h.2.2.2⟩ (fun e => absurd e h.2.1);refine ⟨?_,g⟩;rw [show pop (r,(n,a,k) :: f) = put (r,f) (.mk n a [] k) from rfl,e];simp [ntxS,ntxF,ntxN]
theorem pops_txt (j:Nat):∀ {s:St},LfS s → ntxS (pops j s) = ntxS s∧LfS (pops j s):=by
 induction j with
 | zero => intro s h;exact ⟨rfl,h⟩
 | succ j ih =>
   intro s h;obtain ⟨e1,g1⟩:=pop_txt h;obtain ⟨e2,g2⟩:=ih g1;exact ⟨by rw [pops_succ,e2,e1],g2⟩
theorem stp_txt {s:St} {t:Tok} (h:LfS s) (ht:tkE t = 0):ntxS (stp s t) = ntxS s ++ t.2.2.2∧LfS (stp s t):=by
 obtain ⟨hk,h1,h2⟩:=tkE_zero ht;unfold stp;by_cases e1:t.1 = 1
 · rw [if_pos e1];obtain ⟨e,g⟩:=put_txt (d:=.mk [] [] t.2.2.2 []) h (fun _ => rfl);exact ⟨by rw [e];simp [ntxN,ntxL],g⟩
 rw [if_neg e1];obtain ⟨g1,g2,g3,g4⟩:=h2 e1;rw [g1,List.append_nil];by_cases e2:t.1 = 2
 · rw [if_pos e2];obtain ⟨e,g⟩:=pops_txt (s.2.length - cls (nms s) t.2.1) h;unfold opn;split
   · exact ⟨e,g⟩
   split
   · obtain ⟨e', g'⟩:=put_txt (d:=.mk t.2.1 t.2.2.1 [] []) g (fun _ => rfl);exact ⟨by rw [e', e];simp [ntxN,ntxL],g'⟩
   · exact ⟨by rw [← e];simp [ntxS,ntxF,ntxL],g.1,g3,fun c hc => by simp at hc,g.2⟩
 rw [if_neg e2];split
 · split
   · exact pops_txt _ h
   · exact ⟨rfl,h⟩
 · exact ⟨rfl,h⟩
theorem foldl_txt (l:List Tok):∀ {s:St},LfS s → (∀ t ∈ l,tkE t = 0) → ntxS (l.foldl stp s) = ntxS s ++ l.flatMap (·.2.2.2)∧LfS (l.foldl stp s):=by
 induction l with
 | nil => intro s h _;exact ⟨by simp,h⟩
 | cons t l ih =>
   intro s h ht;obtain ⟨e1,g1⟩:=stp_txt h (ht t (by simp));obtain ⟨e2,g2⟩:=ih g1 (fun u hu => ht u (by simp [hu]));exact ⟨by rw [List.foldl_cons,e2,e1];simp,g2⟩
def stopU (c:UInt8):Bool:=decide (c.toNat = 58) || decide (c.toNat = 47) || decide (c.toNat = 63) || decide (c.toNat = 35)
def okU (k:Nat) (c:UInt8):Bool:=ltr c || decide (k ≠ 0) && (decide (48 ≤ c.toNat) && decide (c.toNat ≤ 57) || decide (c.toNat = 43) || decide (c.toNat = 45) || decide (c.toNat = 46))
def okUs (s:List UInt8):Bool:=(List.range s.length).all fun k => okU k (s.getD k 0)
def schU (s:List UInt8):Nat:=match s.findIdx? stopU with
 | none => 0
 | some i => if s[i]? = some 58∧okUs (s.take i) = true then i else 0
def sHttp:Nm:=[104,116,116,112]
def sHttps:Nm:=[104,116,116,112,115]
def sMail:Nm:=[109,97,105,108,116,111]
def shrU (s:List UInt8):List UInt8:=fold (s.filter fun c => decide (32 < c.toNat))
def prU (t:List UInt8):List UInt8:=t.take (schU t)
def isU (s:List UInt8):Bool:=decide (prU (shrU s) = sHttp) || decide (prU (shrU s) = sHttps) || decide (prU (shrU s) = sMail)
def sA:Nm:=[97]
def sHref:Nm:=[104,114,101,102]
def sTitle:Nm:=[116,105,116,108,101]
def sSrc:Nm:=[115,114,99]
def sAlt:Nm:=[97,108,116]
def alwL:List Nm:=[[97],[98],[105],[101,109],[115,116,114,111,110,103],[112],[98,114],[104,114],[117,108],[111,108],[108,105],[98,108,111,99,107,113,117,111,116,101],[99,111,100,101],[105,109,103]]
def alwN (n:Nm):Bool:=alwL.contains n
def lnkN (n:Nm):Bool:=decide (n = sHref) || decide (n = sSrc)
def mayA (e n:Nm):Bool:=decide (e = sA) && (decide (n = sHref) || decide (n = sTitle)) || decide (e = sImg) && (decide (n = sSrc) || decide (n = sAlt))
def badA (e:Nm) (a:Atr):Bool:=!mayA e a.1 || lnkN a.1 && (!isU a.2 || decide (3000 < a.2.length))
def hasS (l:List Atr):Bool:=l.any fun a => decide (a.1 = sSrc)
mutual
def safN:Nd → Bool
 | .mk n a _ k => !(decide (n ≠ []) && (!alwN n || a.any (badA n) || decide (n = sImg) && !hasS a) || !safL k)
def safL:List Nd → Bool
 | [] => true
 | d :: l => safN d && safL l
end
def stayU (s:List UInt8):Bool:=decide (s.length ≤ 3000) && (safL (ofM (TokL s)) && decide (tksW (fltL (ofM (TokL s))) = s))
abbrev Ent:=Nm × Nm × Nm × Int × Nm
def eI (x:Ent):Nm:=x.1
def eT (x:Ent):Nm:=x.2.1
def eL (x:Ent):Nm:=x.2.2.1
def eA (x:Ent):Int:=x.2.2.2.1
def eH (x:Ent):Nm:=x.2.2.2.2
def chkE (x:Ent):Int :=
 if eI x = [] then 1
 else if 60 < (eI x).length ∨ 3000 < (eT x).length ∨ 3000 < (eL x).length ∨ 3000 < (eH x).length then 2
 else if eA x < 0 ∨ 4102444799 < eA x then 3
 else if (eL x ≠ []∧isU (eL x) = false) ∨ stayU (eH x) = false then 4
 else 0
def cmpT (a b:Nm):Int:=Lib.compareBytes a b
def ordE (a b:Ent):Int:=if eA a ≠ eA b then eA b - eA a else cmpT (eI a) (eI b)
def stE (seen:List Ent) (x:Ent):Int :=
 if chkE x ≠ 0 then chkE x
 else if (seen.any fun y => decide (eI y = eI x)) = true then 6
 else if (seen.getLast?.any fun p => decide (0 ≤ ordE p x)) = true then 4
 else 0
def enG (seen:List Ent):List Ent → Int
 | [] => 0
 | x :: r => if stE seen x ≠ 0 then stE seen x else enG (seen ++ [x]) r
def rdT1 (p:Option Nm) (s:Nm):Int :=
 if s = [] then 1 else if 60 < s.length then 2 else if (p.any fun q => !Op.bytesLess q s) = true then 4 else 0
def rdG (p:Option Nm):List Nm → Int
 | [] => 0
 | s :: r => if rdT1 p s ≠ 0 then rdT1 p s else rdG (some s) r
abbrev Shf:=List Ent × List Nm
def ckS (s:Shf):Int :=
 if 20 < s.1.length ∨ 40 < s.2.length then 2
 else if enG [] s.1 ≠ 0 then enG [] s.1
 else rdG none s.2
def plE (l:List Ent) (i:Nm):Option Nat:=l.findIdx? fun x => decide (eI x = i)
def bsE (l:List Ent) (x:Ent):Nat:=Lib.bsGo (fun t => decide (ordE (l.getD t default) x < 0)) l.length 0 l.length
def insA {α:Type} (l:List α) (i:Nat) (x:α):List α:=l.take i ++ x :: l.drop i
def delA {α:Type} (l:List α) (i:Nat):List α:=l.take i ++ l.drop (i + 1)
def insE (l:List Ent) (x:Ent):List Ent:=insA l (bsE l x) x
def putE (l:List Ent) (x:Ent):List Ent:=match plE l (eI x) with
 | some i => if eA x < eA (l.getD i default) then l else insE (delA l i) x
 | none => insE l x
def enC (l:List Ent):Int:=match l.find? fun x => decide (chkE x ≠ 0) with | some x => chkE x | none => 0
def putC (s:Shf) (l:List Ent):Int:=if ckS s ≠ 0 then ckS s else if 12 < l.length then 2 else enC l
def putL (s:Shf) (l:List Ent):List Ent:=(l.foldl putE s.1).take 20
def putN (s:Shf) (l:List Ent):Int:=((putL s l).filter fun x => !s.1.contains x).length
def bsT (l:List Nm) (i:Nm):Nat:=Lib.bsGo (fun t => Op.bytesLess (l.getD t []) i) l.length 0 l.length
def fnT (l:List Nm) (i:Nm):Bool:=decide (bsT l i < l.length∧l.getD (bsT l i) [] = i)
def mkC (s:Shf) (i:Nm) (b:Bool):Int :=
 if ckS s ≠ 0 then ckS s else if plE s.1 i = none then 5 else if b = true∧fnT s.2 i = false∧s.2.length = 40 then 2 else 0
def mkR (s:Shf) (i:Nm) (b:Bool):List Nm :=
 if b = true then (if fnT s.2 i then s.2 else insA s.2 (bsT s.2 i) i) else (if fnT s.2 i then delA s.2 (bsT s.2 i) else s.2)
def drL (s:Shf):List Ent:=s.1.filter fun x => !fnT s.2 (eI x)
def unL (s:Shf):List Nm:=(drL s).map eI
theorem gb_refl (b:Option Nat) (w:World):w.grownBy w b:=⟨rfl,rfl,rfl,Nat.le_refl _,fun _ _ _ => rfl⟩
theorem gb_trans {b:Option Nat} {x y z:World} (h:x.grownBy y b) (k:y.grownBy z b):x.grownBy z b :=
 ⟨k.os.trans h.os,k.tape.trans h.tape,k.output.trans h.output,Nat.le_trans h.size k.size,fun i hi hne => (k.block i (Nat.lt_of_lt_of_le hi h.size) hne).trans (h.block i hi hne)⟩
theorem gb_bl {b:Option Nat} {w w':World} (h:Bl w w'):w.grownBy w' b:=⟨Below.os h,Below.tape h,Below.output h,Below.size h,fun k hk _ => Below.block h k hk⟩
theorem gb_set {b:Nat} {x w:World} (h:x.grownBy w (some b)) (o:Nat) (v:Value):x.grownBy (w.setCell ⟨b,o,none⟩ v) (some b) :=
 ⟨h.os,h.tape,h.output,by simpa using h.size,fun k hk hne => (Below.heap_setCell w ⟨b,o,none⟩ v k (by rintro rfl;exact hne rfl)).trans (h.block k hk hne)⟩
theorem gb_drewN {b:Option Nat} {x w:World} (h:x.grownBy w b) (n:Nat):x.grownBy (w.drewN n) b:=gb_trans h (gb_bl ((Bl.refl _).drewN n))
theorem gb_qt {b:Option Nat} {w w':World} (h:Qt w w'):w.grownBy w' b:=gb_bl h.bl
def Rk (w:World) (b:Nat) (s:List UInt8) (k:Nat) (x:List UInt8) (v:Value):Prop :=
 w.heap[b]? = some (.cells #[.string ⟨s.toArray⟩,.int .i64 (k:Int),.string ⟨x.toArray⟩,v] 115 (0,0))
theorem Rk.lt {w:World} {b k:Nat} {s x:List UInt8} {v:Value} (h:Rk w b s k x v):b < w.heap.size:=(Array.getElem?_eq_some_iff.1 h).1
theorem Rk.cells {w:World} {b k:Nat} {s x:List UInt8} {v:Value} (h:Rk w b s k x v) :
 w.cell? ⟨b,0,none⟩ = some (.string ⟨s.toArray⟩)∧w.cell? ⟨b,1,none⟩ = some (.int .i64 (k:Int))∧w.cell? ⟨b,2,none⟩ = some (.string ⟨x.toArray⟩)∧w.cell? ⟨b,3,none⟩ = some v ∧
 w.frozen? ⟨b,0,none⟩ = false∧w.frozen? ⟨b,1,none⟩ = false∧w.frozen? ⟨b,2,none⟩ = false∧w.frozen? ⟨b,3,none⟩ = false:=by
 unfold Rk at h;simp [World.cell?,World.frozen?,h]
theorem Rk.of_bl {w w':World} {b k:Nat} {s x:List UInt8} {v:Value} (h:Rk w b s k x v) (hb:Bl w w'):Rk w' b s k x v:=by
 have:=h.lt;unfold Rk at *;rw [Below.block hb b this,h]
theorem Rk.set1 {w:World} {b k:Nat} {s x:List UInt8} {v:Value} (h:Rk w b s k x v) (j:Nat):Rk (w.setCell ⟨b,1,none⟩ (.int .i64 (j:Int))) b s j x v:=by
 unfold Rk at *;simp [World.setCell,h,Array.getElem?_modify]
theorem Rk.seti {w:World} {b k:Nat} {s x:List UInt8} {v:Value} (h:Rk w b s k x v) {n:Int} {j:Nat} (e:n = (j:Int)):Rk (w.setCell ⟨b,1,none⟩ (.int .i64 n)) b s j x v:=by
 subst e;exact h.set1 j
theorem Rk.set2 {w:World} {b k:Nat} {s x:List UInt8} {v:Value} (h:Rk w b s k x v) (y:List UInt8):Rk (w.setCell ⟨b,2,none⟩ (.string ⟨y.toArray⟩)) b s k y v:=by
 unfold Rk at *;simp [World.setCell,h,Array.getElem?_modify]
theorem Rk.set3 {w:World} {b k:Nat} {s x:List UInt8} {v:Value} (h:Rk w b s k x v) (u:Value):Rk (w.setCell ⟨b,3,none⟩ u) b s k x u:=by
 unfold Rk at *;simp [World.setCell,h,Array.getElem?_modify]
theorem Rk.of_gb {w w':World} {b k:Nat} {s x:List UInt8} {v:Value} {g:Option Nat} (h:Rk w b s k x v) (hg:w.grownBy w' g) (hne:some b ≠ g):Rk w' b s k x v:=by
 have:=h.lt;unfold Rk at *;rw [hg.block b this hne,h]
def atOf (b:Nat) (w:World):Nat:=match w.cell? ⟨b,1,none⟩ with | some v => (intOf v).toNat | none => 0
theorem Rk.at_eq {w:World} {b k:Nat} {s x:List UInt8} {v:Value} (h:Rk w b s k x v):atOf b w = k:=by unfold atOf;rw [h.cells.2.1];simp [intOf]
theorem white_c (c:UInt8) (w:World):Calls Tryz.prog 164 #[.int .u8 (c.toNat:Int)] w fun e w' => e = .returned (.bool (wht c))∧w = w':=by
 go_enter Tryz.func164,Tryz.ntmps164;go_wp2;all_goals
  go_ret;exact ⟨ret_bool (by rw [Bool.eq_iff_iff];simp [wht];omega),rfl⟩
theorem letter_c (c:UInt8) (w:World):Calls Tryz.prog 161 #[.int .u8 (c.toNat:Int)] w fun e w' => e = .returned (.bool (ltr c))∧w = w':=by
 go_enter Tryz.func161,Tryz.ntmps161;go_wp2;all_goals
  go_ret;exact ⟨ret_bool (by rw [Bool.eq_iff_iff];simp [ltr,lwr];omega),rfl⟩
theorem isWhite_c (c:UInt8) (w:World):Calls Tryz.prog 113 #[.int .u8 (c.toNat:Int)] w fun e w' => e = .returned (.bool (wht c))∧w = w':=by
 have:=u8_lt c;go_enter Tryz.func113,Tryz.ntmps113;go_wp2_with (go_at_call 39;refine (between_c _ _ _ _).mono ?_;rintro e w' ⟨rfl,rfl⟩);all_goals
  go_ret;exact ⟨ret_bool (by rw [Bool.eq_iff_iff];simp [wht];omega),rfl⟩
theorem isLetter_c (c:UInt8) (w:World):Calls Tryz.prog 77 #[.int .u8 (c.toNat:Int)] w fun e w' => e = .returned (.bool (ltr c))∧w = w':=by
 have:=u8_lt c;go_enter Tryz.func77,Tryz.ntmps77;go_wp2_with (go_at_call 39;refine (between_c _ _ _ _).mono ?_;rintro e w' ⟨rfl,rfl⟩);all_goals
  go_ret;exact ⟨ret_bool (by rw [Bool.eq_iff_iff];simp [ltr,lwr];omega),rfl⟩
def posN (k:Nat) (c:UInt8):Bool:=if k = 0 then lwr c else nmc c
theorem posN_iff (k:Nat) (c:UInt8):posN k c = true ↔ (97 ≤ c.toNat∧c.toNat ≤ 122) ∨ (k ≠ 0∧(48 ≤ c.toNat∧c.toNat ≤ 57 ∨ c.toNat = 45)):=by
 unfold posN;by_cases h:k = 0
 · simp [h,lwr]
 · simp [h,nmc,lwr,dgt];omega
theorem posN_no {k:Nat} {c:UInt8} (h:¬ ((97 ≤ c.toNat∧c.toNat ≤ 122) ∨ (k ≠ 0∧(48 ≤ c.toNat∧c.toNat ≤ 57 ∨ c.toNat = 45)))):posN k c = false:=by
 rw [← posN_iff] at h;simpa using h
theorem isNm_pos (l:List UInt8) (hp:∀ i (h:i < l.length),posN i l[i] = true) (hl:l.length ≤ 20) (h0:l ≠ []):isNm l = true:=by
 cases l with
 | nil => exact absurd rfl h0
 | cons c r =>
   have h1:=hp 0 (by simp);simp only [List.getElem_cons_zero,posN,if_true] at h1;simp only [isNm,h1,Bool.true_and,Bool.and_eq_true,decide_eq_true_eq,List.all_eq_true];refine ⟨fun x hx => ?_,by simpa using hl⟩;obtain ⟨i,hi,rfl⟩:=List.mem_iff_getElem.1 hx;have:=hp (i + 1) (by simpa using hi);simpa [posN] using this
theorem isNm_no (l:List UInt8) (i:Nat) (h:i < l.length) (hp:posN i l[i] = false):isNm l = false:=by
 cases l with
 | nil => rfl
 | cons c r =>
   cases i with
   | zero => simp only [List.getElem_cons_zero,posN,if_true] at hp;simp [isNm,hp]
   | succ i =>
     simp only [List.getElem_cons_succ,posN] at hp;have:r.all nmc = false:=by rw [List.all_eq_false];exact ⟨r[i]'(by simpa using h),List.getElem_mem _,by simpa using hp⟩
     simp [isNm,this]
theorem isNm_long (l:List UInt8) (h:20 < l.length ∨ l = []):isNm l = false:=by
 cases l with
 | nil => rfl
 | cons c r =>
   rcases h with h | h
   · simp only [List.length_cons] at h;have:¬ r.length ≤ 19:=by omega
     simp [isNm,this]
   · cases h
theorem name_c (l:List UInt8) (hl:l.length ≤ 4611686018427387904) (w:World):Calls Tryz.prog 166 #[.string ⟨l.toArray⟩] w fun e w' => e = .returned (.bool (isNm l))∧w = w':=by
 go_enter Tryz.func166,Tryz.ntmps166;go_wp2;go_loop [7] (fun i => ∃ k:Nat,k ≤ l.length∧i = .int .i64 k∧Hid (∀ i (h:i < l.length),i < k → posN i l[i] = true)) (fun i => l.length - (intOf i).toNat);case atStart => exact ⟨0,Nat.zero_le _,rfl,Lib.hid (fun i _ h => by omega)⟩
 case round =>
  obtain ⟨k,hk,rfl,HP⟩:=hrel;by_cases hlt:k < l.length
  · have hc:=u8_lt l[k];have hcase:((97:Int) ≤ (l[k].toNat:Int)∧(l[k].toNat:Int) ≤ 122) ∨ ((l[k].toNat:Int) < 97∧((k:Int) == 0) = true) ∨ ((122:Int) < (l[k].toNat:Int)∧((k:Int) == 0) = true) ∨ (((l[k].toNat:Int) < 48∧((l[k].toNat:Int) != 45) = true)∧((k:Int) == 0) = false) ∨ ((l[k].toNat:Int) = 45∧((k:Int) == 0) = false) ∨ (((48:Int) ≤ (l[k].toNat:Int)∧(l[k].toNat:Int) ≤ 57)∧((k:Int) == 0) = false) ∨ (((57:Int) < (l[k].toNat:Int)∧(l[k].toNat:Int) < 97)∧((k:Int) == 0) = false) ∨ ((122:Int) < (l[k].toNat:Int)∧((k:Int) == 0) = false):=by
     simp only [beq_iff_eq,beq_eq_false_iff_ne,bne_iff_ne,ne_eq];omega
    rcases hcase with ⟨c1,c2⟩ | ⟨c1,c2⟩ | ⟨c1,c2⟩ | ⟨⟨c1,c2⟩,c3⟩ | ⟨c1,c2⟩ | ⟨⟨c1,c2⟩,c3⟩ | ⟨⟨c1,c2⟩,c3⟩ | ⟨c1,c2⟩;all_goals
     have HQ:=Lib.hid (And.intro c1 c2);try have HQ3:=Lib.hid c3
     go_wp2;all_goals first
      | (exfalso
         simp only [Bool.not_eq_false', Bool.not_eq_true', decide_eq_true_eq,decide_eq_false_iff_not,bne_eq_false_iff_eq,bne_iff_ne,beq_iff_eq,beq_eq_false_iff_ne,ne_eq] at *;omega)
      | (go_round
         case rel =>
          refine ⟨k + 1,by omega,by go_num,Lib.hid (fun i h hi => ?_)⟩;by_cases e:i = k
          · subst e;have hq:=HQ.out;try have hq3:=HQ3.out
            try simp only [beq_eq_false_iff_ne,ne_eq] at hq
            try simp only [beq_eq_false_iff_ne,ne_eq] at hq3
            rw [posN_iff];omega
          · exact HP.out i h (by omega)
         case measure => simp [intOf];omega)
      | (go_ret
         have hq:=HQ.out;try have hq3:=HQ3.out
         try simp only [beq_iff_eq,beq_eq_false_iff_ne,bne_iff_ne,ne_eq] at hq
         try simp only [beq_eq_false_iff_ne,ne_eq] at hq3
         exact ⟨ret_bool (isNm_no l k hlt (posN_no (by omega))).symm,rfl⟩)
  · by_cases h0:l = []
    · subst h0;go_wp2;go_ret;exact ⟨rfl,rfl⟩
    · have hne:l.isEmpty = false:=by cases l <;> simp_all
      have HE:=Lib.hid h0;by_cases h20:l.length ≤ 20
      · have HN:=Lib.hid (isNm_pos l (fun i h => HP.out i h (by omega)) h20 h0);have h20':(l.length:Int) ≤ 20:=by omega
        go_wp2;go_ret;exact ⟨by rw [HN.out];exact ret_bool (by have:=HE.out;simp [] <;> omega),rfl⟩
      · have HN:=Lib.hid (isNm_long l (Or.inl (by omega)));go_wp2;go_ret;exact ⟨by rw [HN.out];exact ret_bool (by have:=HE.out;simp [] <;> omega),rfl⟩
theorem isName_c (l:List UInt8) (hl:l.length ≤ 4611686018427387904) (w:World):Calls Tryz.prog 116 #[.string ⟨l.toArray⟩] w fun e w' => e = .returned (.bool (isNm l))∧w = w':=by
 by_cases h20:1 ≤ l.length∧l.length ≤ 20
 · obtain ⟨h1,h2⟩:=h20;have h1':(1:Int) ≤ (l.length:Int):=by omega
   have h2':(l.length:Int) ≤ 20:=by omega
   go_enter Tryz.func116,Tryz.ntmps116;go_wp2_with (go_at_call 39;refine (between_c _ _ _ _).mono ?_;rintro e w' ⟨rfl,rfl⟩);go_loop [3] (fun i => ∃ k:Nat,k ≤ l.length∧i = .int .i64 k∧Hid (∀ i (h:i < l.length),i < k → posN i l[i] = true)) (fun i => l.length - (intOf i).toNat);case atStart => exact ⟨0,Nat.zero_le _,rfl,Lib.hid (fun i _ h => by omega)⟩
   case round =>
    obtain ⟨k,hk,rfl,HP⟩:=hrel;by_cases hlt:k < l.length
    · have hc:=u8_lt l[k];have hcase:((97:Int) ≤ (l[k].toNat:Int)∧(l[k].toNat:Int) ≤ 122) ∨ ((l[k].toNat:Int) < 97∧((k:Int) == 0) = true) ∨ ((122:Int) < (l[k].toNat:Int)∧((k:Int) == 0) = true) ∨ (((l[k].toNat:Int) < 48∧((l[k].toNat:Int) != 45) = true)∧((k:Int) == 0) = false) ∨ ((l[k].toNat:Int) = 45∧((k:Int) == 0) = false) ∨ (((48:Int) ≤ (l[k].toNat:Int)∧(l[k].toNat:Int) ≤ 57)∧((k:Int) == 0) = false) ∨ (((57:Int) < (l[k].toNat:Int)∧(l[k].toNat:Int) < 97)∧((k:Int) == 0) = false) ∨ ((122:Int) < (l[k].toNat:Int)∧((k:Int) == 0) = false):=by
       simp only [beq_iff_eq,beq_eq_false_iff_ne,bne_iff_ne,ne_eq];omega
      rcases hcase with ⟨c1,c2⟩ | ⟨c1,c2⟩ | ⟨c1,c2⟩ | ⟨⟨c1,c2⟩,c3⟩ | ⟨c1,c2⟩ | ⟨⟨c1,c2⟩,c3⟩ | ⟨⟨c1,c2⟩,c3⟩ | ⟨c1,c2⟩;all_goals
       have HQ:=Lib.hid (And.intro c1 c2);try have HQ3:=Lib.hid c3
       go_wp2_with (go_at_call 39;refine (between_c _ _ _ _).mono ?_;rintro e w' ⟨rfl,rfl⟩);all_goals first
        | (exfalso
           simp only [Bool.not_eq_false', Bool.not_eq_true', decide_eq_true_eq,decide_eq_false_iff_not,bne_eq_false_iff_eq,bne_iff_ne,beq_iff_eq,beq_eq_false_iff_ne,ne_eq] at *;omega)
        | (go_round
           case rel =>
            refine ⟨k + 1,by omega,by go_num,Lib.hid (fun i h hi => ?_)⟩;by_cases e:i = k
            · subst e;have hq:=HQ.out;try have hq3:=HQ3.out
              try simp only [beq_eq_false_iff_ne,ne_eq] at hq
              try simp only [beq_eq_false_iff_ne,ne_eq] at hq3
              rw [posN_iff];omega
            · exact HP.out i h (by omega)
           case measure => simp [intOf];omega)
        | (go_ret
           have hq:=HQ.out;try have hq3:=HQ3.out
           try simp only [beq_iff_eq,beq_eq_false_iff_ne,bne_iff_ne,ne_eq] at hq
           try simp only [beq_eq_false_iff_ne,ne_eq] at hq3
           exact ⟨ret_bool (isNm_no l k hlt (posN_no (by omega))).symm,rfl⟩)
    · have HN:=Lib.hid (isNm_pos l (fun i h => HP.out i h (by omega)) h2 (by rintro rfl;simp at h1));go_wp2;go_ret;exact ⟨by rw [HN.out];rfl,rfl⟩
 · have HN:=Lib.hid (isNm_long l (by
    rcases Nat.lt_or_ge 20 l.length with h | h
    · exact Or.inl h
    · exact Or.inr (List.eq_nil_of_length_eq_zero (by omega))))
   have h20':(decide ((1:Int) ≤ (l.length:Int)) && decide ((l.length:Int) ≤ 20)) = false:=by
    cases h:(decide ((1:Int) ≤ (l.length:Int)) && decide ((l.length:Int) ≤ 20))
    · rfl
    · simp only [Bool.and_eq_true,decide_eq_true_eq] at h;omega
   have H20:=Lib.hid h20;clear h20;go_enter Tryz.func116,Tryz.ntmps116;go_wp2_with (go_at_call 39;refine (between_c _ _ _ _).mono ?_;rintro e w' ⟨rfl,rfl⟩);all_goals first
    | (go_ret
       exact ⟨by rw [HN.out];rfl,rfl⟩)
    | (exfalso;have:=H20.out;omega)
end Go.Proofs.YthnpljkekhieiaaGreatDoor

/- Tokens: the reference: CheckAttrs. · Trees: the reference's names appended; check in plain Lean. -/
import Derived.Test.YtjclpmpphkmpdaaGreatDoorGrpP
import Derived.Test.YtjclpmpphkmpdaaGreatDoorTokN
import Derived.Test.YtjclpmpphkmpdaaGreatDoorTreT
import Derived.Test.YtjclpmpphkmpdaaGreatDoorGrpL
import Derived.Deep.AppendLies
namespace Go.Proofs.YtjclpmpphkmpdaaGreatDoor
open Go.RowKit

theorem cf_isname : ∀ (args : Array Value) (W : World), Sem.run Tryz.prog (callFunc 19 args) W = .ok (.enter 19 args) W := by
  intro args W
  simp [callFunc, go_sem, Tryz.func19, Tryz.f19]
set_option maxRecDepth 100000 in
set_option maxHeartbeats 2000000 in
theorem checkAttrs_c (l : List Atr) (v : Value) (hl : l.length ≤ 1099511627776) (hn : ∀ a ∈ l, a.1.length ≤ 1099511627776) (w : World) (hA : AtS w v l) :
    Calls Tryz.prog 20 #[v, .func (.func 19) #[] #[]] w fun e w' => e = .returned (.int .i64 (atE l)) ∧ Bl w w' := by
  obtain ⟨ao, c, rfl, hA⟩ := hA
  have hcf := cf_isname
  have HNL := Lib.hid hn
  clear hn
  go_enter Tryz.func20, Tryz.ntmps20
  go_wp2
  go_loopw [5] (fun i wr => ∃ k : Nat, k ≤ l.length ∧ i = .int .i64 k ∧ Hid (atE l = atEF (l.take k) (l.drop k)) ∧ Bl w wr) (fun i _ => l.length - (intOf i).toNat)
  case atStart => exact ⟨0, Nat.zero_le _, rfl, Lib.hid rfl, Bl.refl _⟩
  case round =>
    obtain ⟨k, hk, rfl, HP, hbl⟩ := hrel
    by_cases hlt : k < l.length
    · obtain ⟨g, o, rfl, hg, h1, h2⟩ := hA k hlt
      have y1 := (hbl.cells.1 g _ hg).trans h1
      have hgr : g < wr.heap.size := Nat.lt_of_lt_of_le hg (Below.size hbl)
      have HE := Lib.hid (show atE l = (if isNm l[k].1 = false then 1 else if ((l.take k).any (isN l[k].1)) then 6 else atEF (l.take (k + 1)) (l.drop (k + 1))) by
        rw [HP.out, List.drop_eq_getElem_cons hlt, atEF_cons2, take_snoc l k hlt])
      have NC := Lib.hid (fun W => isName_c l[k].1 (by have := HNL.out _ (List.getElem_mem hlt); omega) W)
      clear h1 h2
      cases hN : isNm l[k].1
      · rw [hN] at NC HE
        simp only [if_true] at HE
        clear hN
        go_wp2_with (go_at_call 19; (with_reducible refine (NC.out _).mono ?_); rintro e w7 ⟨rfl, rfl⟩)
        go_ret
        exact ⟨by rw [HE.out]; rfl, hbl⟩
      · rw [hN] at NC HE
        simp only [Bool.true_eq_false, if_false] at HE
        clear hN
        go_wp2_with (go_at_call 19; (with_reducible refine (NC.out _).mono ?_); rintro e w7 ⟨rfl, rfl⟩)
        go_loopw [6] (fun i wq => ∃ j : Nat, j ≤ k ∧ i = .int .i64 j ∧ Hid ((l.take j).any (isN l[k].1) = false) ∧ Bl wr wq) (fun i _ => k - (intOf i).toNat)
        case atStart => exact ⟨0, Nat.zero_le _, rfl, Lib.hid rfl, Bl.refl _⟩
        case round =>
          obtain ⟨j, hj, rfl, HJ, hbj⟩ := hrel
          have hbw := hbl.trans hbj
          have x1 := (hbj.cells.1 g _ hgr).trans y1
          by_cases hjk : j < k
          · obtain ⟨g2, o2, e2, _, q1, _⟩ := hA j (by omega)
            cases e2
            have q1 := (hbw.cells.1 g _ hg).trans q1
            by_cases hs : l[j].1 = l[k].1
            · have HY := Lib.hid (show (l.take k).any (isN l[k].1) = true by
                rw [List.any_eq_true]
                exact ⟨l[j], List.mem_take_iff_getElem.2 ⟨j, by omega, rfl⟩, by simp [isN, hs]⟩)
              rw [HY.out] at HE
              simp only [if_true] at HE
              rw [hs] at q1
              go_wp2
              go_quiet (fail)
              go_wp2
              go_ret
              exact ⟨by rw [HE.out]; rfl, by first | exact hbw | exact hbw.drewN _⟩
            · have HY := Lib.hid (show (l.take (j + 1)).any (isN l[k].1) = false by
                rw [take_snoc l j (by omega), List.any_append, HJ.out]
                simp [isN, hs])
              have hs' : (l[j].1 == l[k].1) = false := by simpa using hs
              go_wp2
              go_quiet (fail)
              go_wp2
              go_roundw
              case rel => exact ⟨j + 1, by omega, by go_num, HY, by first | exact hbj | exact hbj.drewN _⟩
              case measure => simp [intOf]; omega
          · have HK := Lib.hid (show (l.take k).any (isN l[k].1) = false by have := HJ.out; rwa [show j = k by omega] at this)
            rw [HK.out] at HE
            simp only [Bool.false_eq_true, if_false] at HE
            go_wp2
            go_roundw
            case rel => exact ⟨k + 1, by omega, by go_num, HE, hbw⟩
            case measure => simp [intOf]; omega
    · have HE := Lib.hid (show atE l = 0 by rw [HP.out, List.drop_eq_nil_of_le (by omega)]; rfl)
      go_wp2
      go_ret
      exact ⟨by rw [HE.out]; rfl, hbl⟩
end Go.Proofs.YtjclpmpphkmpdaaGreatDoor

namespace Go.Proofs.YtjclpmpphkmpdaaGreatDoor
open Go.RowKit

theorem ck_nd {r : List Nm} {p : Bool} {d : Nd} {l : List Nd} {q : Int} (h : ndE r d = q) (hq : q ≠ 0) : ckL r p (d :: l) = q := by
  rw [ckL_step, h, if_pos hq]
theorem ck_txt {r : List Nm} {p : Bool} {x : List UInt8} {l : List Nd} (hx : x ≠ []) : ckL r p (.mk [] [] x [] :: l) = if p = true then 4 else ckL r true l := by
  rw [ckL_step, ndE_t0 hx]
  cases p
  · simp [Nd.n, Nd.k, ckL]
  · simp [Nd.n]
theorem ck_rec {r : List Nm} {p : Bool} {n : Nm} {a : List Atr} {x : List UInt8} {kd : List Nd} {l : List Nd} (hn : n ≠ []) (h : ndE r (.mk n a x kd) = 0) : ckL r p (.mk n a x kd :: l) = if ckL (n :: r) false kd ≠ 0 then ckL (n :: r) false kd else ckL r (decide (n = [])) l := by
  rw [ckL_step, h, if_neg (fun h => h rfl), if_neg (fun h => hn h.2)]
  rfl
theorem strV_len (l : List Nm) : (strV l).length = l.length := by simp [strV]
/-- Names that are read, appended to an own row. -/
theorem run_append_sts {P : Program} (w : World) (base : Nat) (t ty e : TypeId) (i : TypeInfo) (z : Value) (bytes : Nat) (ht : P.underlying t = some (.slice e)) (hi : P.info? e = some i) (hz : i.zero = some z)
    (hsize : i.size = 1) (hby : i.bytes = bytes) (hzs : z.cells.size = 1)
    (v : Value) (n : Nat) (xs : List Value) (hown : w.ownsRow base e 1 v n xs) (va : Value) (al : List Nm) (hA : StS w va al)
    (h63 : n + al.length ≤ maxLen) (hbytes : (n + al.length) * bytes ≤ 140737488355328) (hbase : base ≤ w.heap.size) :
    ∃ v' w', (Builtin.append_ #[t, t] ty #[v, va]).run P w = .ok v' w' ∧ w'.ownsRow base e 1 v' (n + al.length) (xs ++ strV al) ∧ w.grownBy w' v.ownBlock := by
  have hA' := hA
  obtain ⟨ao, cap, rfl, -, hA⟩ := hA
  cases ao with
  | none =>
    have h0 : al = [] := by
      rcases al with _ | ⟨a, al⟩
      · rfl
      · obtain ⟨g, o, e, _⟩ := hA 0 (by simp); cases e
    subst h0
    refine ⟨v, w, ?_, by simpa [strV] using hown, gb_bl (b := v.ownBlock) (Bl.refl w)⟩
    rcases hown.2 with ⟨rfl, rfl⟩ | ⟨g, cap, cur, rfl, _, _, hnc, _⟩
    · simp [Builtin.append_, run_underlying ht, sizeOf, typeInfo, hi, Builtin.lenOf, Builtin.firstCells]
    · simp [Builtin.append_, run_underlying ht, sizeOf, typeInfo, hi, Builtin.lenOf, Builtin.firstCells, hnc, storeCells]
  | some a =>
    have hnews : ∀ j u, (strV al)[j]? = some u → w.cell? (a.add j) = some u := by
      rcases al with _ | ⟨b, al⟩
      · intro j u h; simp [strV] at h
      · obtain ⟨g, o, e, _⟩ := hA 0 (by simp)
        cases e
        exact sts_news hA'
    obtain ⟨v', w', hr, h2, h3, _⟩ := run_append_own (P := P) w base t ty e i z 1 bytes ht hi hz hsize hby hzs (by decide) v n xs hown a al.length cap (strV al) (by rw [strV_len, Nat.mul_one]) hnews (strV_one al) h63 hbytes hbase
    exact ⟨v', w', hr, h2, h3⟩
theorem step_append_sts {P : Program} {ops : Array Oper} {o : Oper} {a : Act} {w : World} {K : Act → World → Prop} {Q : Exit → Act → World → Prop} {E : Prop}
    (hgd : o.guard = none) (s x : Operand) (t : TypeId) (hop : o.op = Op.call { callee := Callee.builtin Builtin.append, args := #[s, x], argTypes := #[t, t] })
    (base : Nat) (e : TypeId) (i : TypeInfo) (z : Value) (bytes : Nat) (ht : P.underlying t = some (.slice e)) (hi : P.info? e = some i) (hz : i.zero = some z)
    (hsize : i.size = 1) (hby : i.bytes = bytes) (hzs : z.cells.size = 1)
    (v : Value) (n : Nat) (xs : List Value) (hs : a.eval s = v) (hown : w.ownsRow base e 1 v n xs) (va : Value) (al : List Nm) (hx : a.eval x = va) (hA : StS w va al)
    (h63 : n + al.length ≤ maxLen) (hbytes : (n + al.length) * bytes ≤ 140737488355328) (hbase : base ≤ w.heap.size)
    (hK : ∀ v' w', w'.ownsRow base e 1 v' (n + al.length) (xs ++ strV al) → w.grownBy w' v.ownBlock → K (a.put o.dst v') w') :
    if Region.wanted o (yielded ops a.tmps) = true then Oper.wp P o a w K Q else E := by
  have hw : Region.wanted o (yielded ops a.tmps) = true := by simp [Region.wanted, hgd]
  rw [if_pos hw]
  obtain ⟨v', w', hrun, h2, h3⟩ := run_append_sts (P := P) w base t o.type e i z bytes ht hi hz hsize hby hzs v n xs hown va al hA h63 hbytes hbase
  unfold Oper.wp
  simp [execOp, hop, resolve, invoke, builtin, hs, hx, hrun, Result.andThen]
  exact hK v' w' h2 h3
end Go.Proofs.YtjclpmpphkmpdaaGreatDoor

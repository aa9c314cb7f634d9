/- bitmap.All: its iterator's contract. Own work, after the kit's worked walks. -/
import Derived.Test.YtoipfdbdifoecaaGreatDoorShTz
import Derived.Test.YtoipfdbdifoecaaGreatDoorEvOpt
namespace Go.Proofs
open Go.RowKit Go.Shelf Go.Ev
set_option maxRecDepth 100000
set_option linter.unusedVariables false
set_option linter.unusedSimpArgs false
attribute [local go_sem] Oper.semAt_some
theorem inf65 : (Tryz.prog.info? 77).map (·.size) = some 65 := by kernel_rfl
theorem wpIn_load {F : Fence} {n : Nat} {P : Program} {o : Oper} {a : Act} {w : World} {next : Act → World → Prop} {Q : Exit → Act → World → Prop} {t : TypeId} {p : Operand} {V : Value} (ho : o.op = .load t p)
    (h : (Instr.loadAt t (a.eval p)).run P w = .ok V w) (habout : ∀ f, o.about P w a.eval = some f → F.fn f) (hn : next (a.put o.dst V) w) : o.wpIn F n P a w next Q := by
  refine ⟨habout, ?_⟩
  rw [Oper.semAt_eq _ _ _ (fun c h => by rw [ho] at h; cases h)]
  have e : (execOp a.eval o).run P w = .ok (.value V) w := by
    unfold execOp; rw [ho]; simp [Sem.run_bind, h]
  rw [e]; exact hn
def us (A : Nat → BitVec 64) : List Value := (List.range 65).map fun j => Value.int .u64 ((A j).toNat : Int)
theorem load65 (Bm : Nat) (A : Nat → BitVec 64) (W : World) (hBm : ∀ j, j < 65 → W.cell? ⟨Bm, j, none⟩ = some (.int .u64 (A j).toNat)) :
    (Instr.loadAt 77 (Value.pointer (some ⟨Bm, 0, none⟩))).run Tryz.prog W = .ok (.agg (us A).toArray) W := by
  have hl : (us A).length = 65 := by simp [us]
  have hu := Tryz.underlying77
  have hc := run_loadCells_list (P := Tryz.prog) W ⟨Bm, 0, none⟩ (us A) (list_of_getD (n := 65) hl fun j hj => by
    rw [addr_add, Nat.zero_add, hBm j hj]; simp [us, List.getD_eq_getElem?_getD, hj])
  rw [hl] at hc
  obtain ⟨i, hi, hs⟩ := Option.map_eq_some_iff.1 inf65
  simp only [Instr.loadAt, Instr.sureAddr, Sem.run_bind, Sem.run_pure, Result.andThen_ok, loadVar, Go.Ev.run_isAgg hu, isAggD, if_true, Go.Ev.run_sizeOf hi, hs, hc]
theorem inf71 : (Tryz.prog.info? 25).map (·.size) = some 1 := by kernel_rfl
theorem idx65 (A : Nat → BitVec 64) {k : Nat} (hk : k < 65) (w : World) : (Instr.index 77 (.agg (us A).toArray) (.int .i64 (k : Int))).run Tryz.prog w = .ok (.int .u64 ((A k).toNat : Int)) w := by
  have hu := Tryz.underlying77
  have hv := Tryz.underlying25
  obtain ⟨i, hi, hs⟩ := Option.map_eq_some_iff.1 inf71
  have h0 : (0 : Int) ≤ k := by omega
  have h1 : (k : Int) < (65 : Nat) := by omega
  have hp := run_part_one (w := w) hv rfl (us A).toArray k (by simp [us]; omega)
  have hg : (us A).toArray.getD k undef = .int .u64 ((A k).toNat : Int) := by
    rw [getD_arr]; simp [us, List.getD_eq_getElem?_getD, hk]
  simp only [Instr.index, Sem.run_bind, Go.Ev.run_underlying hu, Result.andThen_ok, asIntOf, Sem.run_pure, h0, h1, and_self, if_true, Go.Ev.run_sizeOf hi, hs, Nat.mul_one, Int.toNat_natCast, hp, hg]
theorem ofInt_bv (a : BitVec 64) : BitVec.ofInt 64 (a.toNat : Int) = a := by
  apply BitVec.eq_of_toNat_eq
  simp
theorem band (u : BitVec 64) (hu : u.toNat ≠ 0) : bits BinOp.and IntKind.u64 (u.toNat : Int) ((u.toNat : Int) - 1) = ((u &&& (u - 1#64)).toNat : Int) := by
  have hlt := u.isLt
  have e1 : ((u.toNat : Int) - 1) = ((u.toNat - 1 : Nat) : Int) := by omega
  have e2 : (u - 1#64).toNat = u.toNat - 1 := by
    rw [BitVec.toNat_sub]
    have : (1#64).toNat = 1 := rfl
    rw [this]; omega
  rw [e1, bits_and_u64_nat _ _ hlt (by omega), BitVec.toNat_and, e2]
set_option maxHeartbeats 2000000 in
theorem all1_in (n : Nat) (hn : 2 ≤ n) (l Bm n₀ : Nat) (A : Nat → BitVec 64) (J Jx : List Nat → World → Prop)
    (hY : ∀ pre x W, J pre W → pre.length < (restW A 65 0).length → YieldAt Fence.wide (n - 1) Tryz.prog l #[.int .i64 (x : Nat)] W fun e W' =>
      (e = .returned (.bool true) ∧ J (pre ++ [x]) W' ∧ Below n₀ W W') ∨ (e = .returned (.bool false) ∧ Jx (pre ++ [x]) W'))
    (W : World) (hBm : ∀ j, j < 65 → W.cell? ⟨Bm, j, none⟩ = some (.int .u64 (A j).toNat)) (hT : TabD W) (hn0 : 0 < n₀) (h0 : J [] W) :
    CallsIn Fence.wide n Tryz.prog 74 #[.func (.yield l) #[] #[], .pointer (some ⟨Bm, 0, none⟩)] W fun e W' => (∃ v, e = .returned v) ∧
      ((∃ ys, ys = restW A 65 0 ∧ J ys W') ∨ (∃ pre, pre <+: restW A 65 0 ∧ Jx pre W')) := by
  refine callsIn_of_wp Tryz.func74 rfl trivial ?_ rfl
  simp only [Tryz.ntmps74, List.size_toArray, List.length_cons, List.length_nil, Nat.reduceAdd, Nat.reduceSub, Array.replicate_succ, Array.replicate_zero, List.push_toArray, List.append_toArray, List.nil_append, List.cons_append]
  have hload : (Instr.loadAt 77 (Value.pointer (some ⟨Bm, 0, none⟩))).run Tryz.prog W = .ok (.agg (us A).toArray) W := load65 Bm A W hBm
  gi_wp2_with (first | (refine wpIn_load rfl hload (fun _ _ => trivial) ?_; simp only [Act.put, go_sem]) | gi_in)
  gi_loopw [7] (fun v wr => ∃ (k : Nat) (pre : List Nat), v = .int .i64 (k : Int) ∧ k ≤ 65 ∧ restW A 65 0 = pre ++ restW A (65 - k) k ∧ J pre wr ∧ TabD wr)
    (fun v _ => match v with | .int _ k => 65 - k.toNat | _ => 0)
  case atStart =>
    exact ⟨0, [], rfl, by omega, rfl, h0, hT⟩
  case round =>
    obtain ⟨k, pre, rfl, hk, hx, hJs, hTs⟩ := hrel
    by_cases hlt : k < 65
    case neg =>
      obtain rfl : k = 65 := by omega
      gi_wp2
      go_end0
      exact ⟨⟨_, rfl⟩, .inl ⟨pre, by simpa [restW] using hx.symm, hJs⟩⟩
    have h65 : ((k : Int) < 65) := by omega
    have hidx := idx65 A hlt wr
    gi_wp2_with (simp only [hidx])
    have hsp : restW A (65 - k) k = (bl (A k)).map (k * 64 + ·) ++ restW A (64 - k) (k + 1) := by
      rw [show 65 - k = (64 - k) + 1 by omega]; rfl
    gi_loopw [4] (fun v w2 => ∃ (u : BitVec 64) (dn : List Nat), v = .int .u64 (u.toNat : Int) ∧ restW A 65 0 = dn ++ ((bl u).map (k * 64 + ·) ++ restW A (64 - k) (k + 1)) ∧ J dn w2 ∧ TabD w2)
      (fun v _ => match v with | .int _ z => (bl (BitVec.ofInt 64 z)).length | _ => 0)
    case atStart =>
      exact ⟨A k, pre, rfl, by rw [← hsp]; exact hx, hJs, hTs⟩
    case round =>
      obtain ⟨u, dn, rfl, hx2, hJ2, hT2⟩ := hrel
      by_cases hu : u.toNat = 0
      · have hu0 : u = 0#64 := BitVec.eq_of_toNat_eq hu
        subst hu0
        gi_wp2
        refine ⟨⟨k + 1, dn, rfl, by omega, ?_, hJ2, hT2⟩, ?_⟩
        · rw [show 65 - (k + 1) = 64 - k by omega]; simpa [bl_zero] using hx2
        · show 65 - ((k : Int) + 1).toNat < 65 - (k : Int).toNat
          omega
      obtain ⟨hb1, hb2⟩ := bl_step u hu
      have hune : ((u.toNat : Int) == 0) = false := by simp; omega
      have hlen : dn.length < (restW A 65 0).length := by rw [hx2, hb1]; simp
      obtain ⟨fn, tmps, assign, body, hy, hR⟩ := hY dn (k * 64 + Lib.ctz 64 u.toNat) _ hJ2 hlen
      have hcast : ((k * 64 + Lib.ctz 64 u.toNat : Nat) : Int) = (k : Int) * 64 + (Lib.ctz 64 u.toNat : Int) := by push_cast; rfl
      rw [hcast] at hy
      gi_wp2_with (first | (refine ⟨trivial, fun h => by simp [Fence.wide] at h, (callsIn_wide.2 (tz_in u.toNat u.isLt hu _ hT2)).mono ?_⟩; rintro e w' ⟨rfl, rfl⟩) | gi_in)
      refine ⟨fun h => by simp [Fence.wide] at h, hR.mono ?_⟩
      rintro e W3 (⟨rfl, hJ3, hk3⟩ | ⟨rfl, hJx3⟩)
      · gi_wp2
        rw [band u hu]
        refine ⟨⟨u &&& (u - 1#64), dn ++ [k * 64 + Lib.ctz 64 u.toNat], rfl, ?_, hJ3, fun j hj => (hk3.cell (p := ⟨0, j, none⟩) hn0).trans (hT2 j hj)⟩, ?_⟩
        · rw [hx2, hb1]; simp
        · show (bl (BitVec.ofInt 64 ((u &&& (u - 1#64)).toNat : Int))).length < (bl (BitVec.ofInt 64 (u.toNat : Int))).length
          rw [ofInt_bv, ofInt_bv, hb1]; simp
      · gi_wp2
        refine bodyPost_ret (results_none rfl _ _ _) rfl ?_
        exact ⟨⟨_, rfl⟩, .inr ⟨dn ++ [k * 64 + Lib.ctz 64 u.toNat], ⟨(bl (u &&& (u - 1#64))).map (k * 64 + ·) ++ restW A (64 - k) (k + 1), by rw [hx2, hb1]; simp⟩, hJx3⟩⟩
end Go.Proofs

/- Contracts of maps.Clone and bytes.Clone (laid by the shelf's commands) and of maps.Equal at elements of two whole numbers (own walk). -/
import Derived.Shelf.SlMaps.Equal
import Derived.Shelf.SlMaps.Clone
import Derived.Shelf.Bytes.SlClone
import Derived.Test.YtoipfdbdifoecaaGreatDoorEvNatM
import Derived.Test.YtoipfdbdifoecaaGreatDoorEvDis
import Derived.Test.YtoipfdbdifoecaaGreatDoorProg
namespace Go.Proofs
open Go.Shelf Go.RowKit Go.Maps
def addrR : Value → Option (DataW (Int × Int) × List MemPlace)
  | .agg ⟨[.int .i64 a, .int .i64 b]⟩ => some (.held (a, b), [])
  | _ => none
def eqA : DataW (Int × Int) → DataW (Int × Int) → Bool
  | .held a, .held b => decide (a = b)
  | _, _ => false
theorem addrR_inv {c : Value} {y : DataW (Int × Int) × List MemPlace} (h : addrR c = some y) : ∃ a b, c = .agg #[.int .i64 a, .int .i64 b] ∧ y = (.held (a, b), []) := by
  unfold addrR at h
  split at h
  · injection h with h; exact ⟨_, _, rfl, h.symm⟩
  · cases h
def Tryz.cloneM_ren : Ren := ⟨fun | 5 => 66 | 7 => 81 | n => n, fun | 23 => 33 | 25 => 3 | 3 => 24 | 4 => 4 | 20 => 20 | n => n, fun n => n⟩
theorem Tryz.cloneM : SlLaysW.n5 Tryz.prog Tryz.cloneM_ren := {
  mixed := by kernel_rfl
  f5 := ⟨"maps.Clone[map[int]spence/api.Addr,int,spence/api.Addr]", by decide, Tryz.func66.trans (congrArg some (by kernel_rfl))⟩
  f7 := Tryz.func81.trans (congrArg some (by kernel_rfl))
  t4 := Tryz.underlying4
  a4 := Tryz.isAgg4
  z4 := Tryz.sizeOf4
  v4 := Tryz.zeroValue4
  t20 := Tryz.underlying20
  a20 := Tryz.isAgg20
  z20 := Tryz.sizeOf20
  v20 := Tryz.zeroValue20
  t23 := Tryz.underlying33
  a23 := Tryz.isAgg33
  z23 := Tryz.sizeOf33
  v23 := Tryz.zeroValue33 }
theorem Tryz.cloneN : Ev.CallSnd Tryz.prog (Ev.natMC 66) := Ev.natMC_snd ⟨_, Tryz.func66, by kernel_rfl, of_decide_eq_true (by kernel_rfl)⟩ (AnyW.maps_Clone_nil Tryz.cloneM) (AnyW.maps_Clone Tryz.cloneM)

def Tryz.cloneB_ren : Ren := ⟨fun | 4 => 46 | n => n, fun | 22 => 26 | 5 => 5 | 4 => 4 | n => n, fun n => n⟩
theorem Tryz.cloneB : SlLaysK.n4 Tryz.prog Tryz.cloneB_ren := {
  mixed := by kernel_rfl
  f4 := Tryz.func46.trans (congrArg some (by kernel_rfl))
  t4 := Tryz.underlying4
  a4 := Tryz.isAgg4
  z4 := Tryz.sizeOf4
  v4 := Tryz.zeroValue4
  t22 := Tryz.underlying26
  a22 := Tryz.isAgg26
  z22 := Tryz.sizeOf26
  v22 := Tryz.zeroValue26
  t5 := Tryz.underlying5
  i5 := by kernel_rfl }
theorem Tryz.bcloneN : Ev.CallSnd Tryz.prog (Ev.natBC 46) := Ev.natBC_snd (ty := 5) ⟨_, Tryz.func46, by kernel_rfl, of_decide_eq_true (by kernel_rfl)⟩ (Any.bytes_Clone_nil Tryz.cloneB) (Any.bytes_Clone_at Tryz.cloneB)
end Go.Proofs

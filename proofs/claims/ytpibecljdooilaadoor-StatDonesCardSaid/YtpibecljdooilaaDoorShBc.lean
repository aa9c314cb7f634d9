/- Contract of bytes.Clone (laid by the shelf's commands). -/
import Derived.Shelf.Bytes.SlClone
import Derived.Test.YtpibecljdooilaaDoorEvNatM
import Derived.Test.YtpibecljdooilaaDoorProg
namespace Go.Proofs
open Go.Shelf Go.RowKit
def Tryd.cloneB_ren : Ren := ⟨fun | 4 => 47 | n => n, fun | 22 => 25 | 5 => 5 | 4 => 4 | n => n, fun n => n⟩
theorem Tryd.cloneB : SlLaysK.n4 Tryd.prog Tryd.cloneB_ren := {
  mixed := by kernel_rfl
  f4 := Tryd.func47.trans (congrArg some (by kernel_rfl))
  t4 := Tryd.underlying4
  a4 := Tryd.isAgg4
  z4 := Tryd.sizeOf4
  v4 := Tryd.zeroValue4
  t22 := Tryd.underlying25
  a22 := Tryd.isAgg25
  z22 := Tryd.sizeOf25
  v22 := Tryd.zeroValue25
  t5 := Tryd.underlying5
  i5 := by kernel_rfl }
theorem Tryd.bcloneN : Ev.CallSnd Tryd.prog (Ev.natBC 47) := Ev.natBC_snd (ty := 5) ⟨_, Tryd.func47, by kernel_rfl, of_decide_eq_true (by kernel_rfl)⟩ (Any.bytes_Clone_nil Tryd.cloneB) (Any.bytes_Clone_at Tryd.cloneB)
end Go.Proofs

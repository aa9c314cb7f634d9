/- Contract of bytes.Clone (laid by the shelf's commands). -/
import Derived.Shelf.Bytes.SlClone
import Derived.Test.YtbcpffhialoliaaEvNatM
import Derived.Test.YtbcpffhialoliaaProg
namespace Go.Proofs
open Go.Shelf Go.RowKit
def Try.cloneB_ren : Ren := ⟨fun | 4 => 48 | n => n, fun | 22 => 37 | 5 => 5 | 4 => 4 | n => n, fun n => n⟩
theorem Try.cloneB : SlLaysK.n4 Try.prog Try.cloneB_ren := {
  mixed := by kernel_rfl
  f4 := Try.func48.trans (congrArg some (by kernel_rfl))
  t4 := Try.underlying4
  a4 := Try.isAgg4
  z4 := Try.sizeOf4
  v4 := Try.zeroValue4
  t22 := Try.underlying37
  a22 := Try.isAgg37
  z22 := Try.sizeOf37
  v22 := Try.zeroValue37
  t5 := Try.underlying5
  i5 := by kernel_rfl }
theorem Try.bcloneN : Ev.CallSnd Try.prog (Ev.natBC 48) := Ev.natBC_snd (ty := 5) ⟨_, Try.func48, by kernel_rfl, of_decide_eq_true (by kernel_rfl)⟩ (Any.bytes_Clone_nil Try.cloneB) (Any.bytes_Clone_at Try.cloneB)
end Go.Proofs

/- Short words for data, bytes as numbers. Own work. -/
import Derived.Test.YtbcpffhialoliaaEvArg
namespace Go.Proofs.Ytbcpffhialoliaa
open Go Go.Ev
set_option linter.unusedSimpArgs false
set_option linter.unusedVariables false
abbrev dB (b : UInt8) : AV := .d (.int .u8 b.toNat)
abbrev dS (s : List UInt8) : AV := .d (.str s)
abbrev dI (n : Int) : AV := .d (.int .i64 n)
abbrev dT (b : Bool) : AV := .d (.bool b)
theorem u8_eq (b : UInt8) (n : Nat) (h : n < 256) : ((b.toNat : Int) = n) ↔ b = UInt8.ofNat n := by
  constructor
  · intro e; apply UInt8.toNat_inj.1; rw [UInt8.toNat_ofNat']; omega
  · intro e; rw [e, UInt8.toNat_ofNat']; omega
theorem u8_32 (b : UInt8) : ((b.toNat : Int) = 32) = (b = 32) := propext (u8_eq b 32 (by omega))
theorem u8_9 (b : UInt8) : ((b.toNat : Int) = 9) = (b = 9) := propext (u8_eq b 9 (by omega))
theorem u8_48 (b : UInt8) : ((b.toNat : Int) = 48) = (b = 48) := propext (u8_eq b 48 (by omega))
theorem u8_u8 (b c : UInt8) : ((b.toNat : Int) = (c.toNat : Int)) = (b = c) := propext ⟨fun e => UInt8.toNat_inj.1 (by omega), fun e => by rw [e]⟩
theorem g8 {s : List UInt8} {i : Nat} (h : i < s.length) : s.getD i 0 = s[i] := by simp [List.getD_eq_getElem?_getD, h]
end Go.Proofs.Ytbcpffhialoliaa

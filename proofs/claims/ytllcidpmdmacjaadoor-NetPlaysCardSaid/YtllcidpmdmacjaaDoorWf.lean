/- Frames: number, Frame of the program and of the document. -/
import Derived.Test.YtllcidpmdmacjaaDoorWt

namespace Go.Proofs.YtllcidpmdmacjaaDoor
open Go.RowKit Go.Lib

/-- a number's four bytes, the least first -/
def num4 (n : Nat) : List UInt8 := [UInt8.ofNat n, UInt8.ofNat (n / 256), UInt8.ofNat (n / 65536), UInt8.ofNat (n / 16777216)]
theorem byteOf (n : Nat) : IntKind.u8.wrap (n : Int) = (((UInt8.ofNat n).toNat : Nat) : Int) := by
  rw [UInt8.toNat_ofNat', IntKind.wrap_u8']
  omega
theorem byteDiv (n k : Nat) : IntKind.u8.wrap ((n : Int) / (k : Int)) = (((UInt8.ofNat (n / k)).toNat : Nat) : Int) := by
  rw [show (n : Int) / (k : Int) = ((n / k : Nat) : Int) by simp]
  exact byteOf _
theorem crc_lt (l : List UInt8) : crc l < 4294967296 := by unfold crc; omega
/-- what frames bytes -/
def frame (l : List UInt8) : List UInt8 := num4 l.length ++ l ++ num4 (crc (num4 l.length ++ l))

end Go.Proofs.YtllcidpmdmacjaaDoor

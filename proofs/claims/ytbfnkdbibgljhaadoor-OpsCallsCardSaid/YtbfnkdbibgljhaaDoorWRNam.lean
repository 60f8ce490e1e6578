/- The reference of chapter 1: lower, digit, Name. -/
import Derived.Test.YtbfnkdbibgljhaaDoorWBare
namespace Go.Proofs.YtbfnkdbibgljhaaDoor
open Go.RowKit

def lowB (n : Nat) : Bool := decide (97 ≤ n) && decide (n ≤ 122)
def digB (n : Nat) : Bool := decide (48 ≤ n) && decide (n ≤ 57)
theorem nameC_at (c : UInt8) : nameC c = (lowB c.toNat || digB c.toNat || c.toNat == 45) := by
  have := Wd.all256 (p := fun c => nameC c == (lowB c.toNat || digB c.toNat || c.toNat == 45)) (by decide +kernel) c
  simpa using this
end Go.Proofs.YtbfnkdbibgljhaaDoor

/- The reference of chapter 1: lower, digit, Name. -/
import Derived.Test.YtabopillicdjaaaGreatDoorWBare
namespace Go.Proofs.YtabopillicdjaaaGreatDoor
open Go.RowKit

def lowB (n : Nat) : Bool := decide (97 ≤ n) && decide (n ≤ 122)
def digB (n : Nat) : Bool := decide (48 ≤ n) && decide (n ≤ 57)
theorem nameC_at (c : UInt8) : nameC c = (lowB c.toNat || digB c.toNat || c.toNat == 45) := by
  have := Wd.all256 (p := fun c => nameC c == (lowB c.toNat || digB c.toNat || c.toNat == 45)) (by decide +kernel) c
  simpa using this
theorem digit_is (n : Nat) (b : Bool) (hb : digB n = b) (w : World) :
    Calls Tryz.prog 108 #[.int .u8 (n : Int)] w fun e w' => e = .returned (.bool b) ∧ w = w' := by
  subst hb
  by_cases h1 : 48 ≤ n
  · by_cases h2 : n ≤ 57
    · go_enter Tryz.func108, Tryz.ntmps108
      go_wp2
      go_ret
      exact ⟨retB (by simp [digB, h1, h2] <;> omega), rfl⟩
    · go_enter Tryz.func108, Tryz.ntmps108
      go_wp2
      go_ret
      exact ⟨retB (by simp [digB, h1, h2] <;> omega), rfl⟩
  · go_enter Tryz.func108, Tryz.ntmps108
    go_wp2
    go_ret
    exact ⟨retB (by simp [digB, h1]), rfl⟩

end Go.Proofs.YtabopillicdjaaaGreatDoor

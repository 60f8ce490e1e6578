/- The law WordsSplits, walked. -/
import Derived.Test.YtkbbkolanbgajaaGreatDoorWRSpl
namespace Go.Proofs.YtkbbkolanbgajaaGreatDoor
open Go.RowKit
open Wd (splitS splitE)

theorem splitS_len (l : List UInt8) : (splitS l).length ≤ 64 := by
  unfold splitS
  split
  · simp
  · split
    · simp
    · split
      · simp
      · rename_i h
        exact Nat.le_of_not_lt (fun e => h (.inr e))
theorem split_is (s : ByteArray) (m : Int) (hm : splitE s.data.toList = m) (w : World) (hs : s.size ≤ 9000) (hg : Gl w) :
    Calls Tryz.prog 9 #[.string s] w fun e w' => ∃ v, e = .returned (.tuple #[v, .int .i64 m]) ∧ Flds w' v (splitS s.data.toList) ∧ Ow w w' := by
  subst hm
  exact (Split_any s w hs hg).mono fun e w' ⟨v, h1, h2, h3⟩ => ⟨v, h1, flds_own h2, h3⟩
end Go.Proofs.YtkbbkolanbgajaaGreatDoor

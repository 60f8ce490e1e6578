/- The law WordsJoins, walked. -/
import Derived.Test.YtkbbkolanbgajaaGreatDoorWRJn
import Derived.Test.YtkbbkolanbgajaaGreatDoorWFar
namespace Go.Proofs.YtkbbkolanbgajaaGreatDoor
open Go.RowKit
open Wd (joinE joinS)
theorem wjoin_is (v : Value) (fs : List (List UInt8 × Bool)) (t : ByteArray) (m : Int) (ht : t.data.toList = joinS fs) (hm : joinE fs = m) (w : World) (hf : FldsA w v fs) (hn : fs.length ≤ 100000) (hg : Gl w) : Calls Tryz.prog 15 #[v] w fun e w' => e = .returned (.tuple #[.string t, .int .i64 m]) ∧ Ow w w' := by
  have := join_any v fs w hf hn hg
  unfold JnPost at this
  rwa [← ht, ba_mk, hm] at this
end Go.Proofs.YtkbbkolanbgajaaGreatDoor

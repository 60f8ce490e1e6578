/- The reference of chapter 1: Unquote. The reference of chapter 1: Quote. -/
import Derived.Test.YtabopillicdjaaaGreatDoorWRSpl
import Derived.Lib.AppendStr
import Derived.Laws.OwnMore
namespace Go.Proofs.YtabopillicdjaaaGreatDoor
open Go.RowKit
open Wd (unqS unqN unquoteS unquoteE)

def RUPost (s : ByteArray) (w : World) (e : Ending) (w' : World) : Prop := e = .returned (.tuple #[.string ⟨(unquoteS s.data.toList).toArray⟩, .int .i64 (unquoteE s.data.toList)]) ∧ Ow w w'
end Go.Proofs.YtabopillicdjaaaGreatDoor
namespace Go.Proofs.YtabopillicdjaaaGreatDoor
open Go.RowKit
open Wd (escB quoteL)

theorem quote_at (l : List UInt8) : quoteL l = (34 :: l.flatMap escB) ++ [34] := by simp [quoteL]
theorem strCells_esc (f : ByteArray) (l : List UInt8) (h : f.data.toList = l) : Lib.strCells f = Lib.byteCells l := by
  subst h; first | rfl | simp [Lib.strCells, Lib.byteCells]
theorem qt_step {s : ByteArray} {k : Nat} (hk : k < s.size) : (34 :: (s.data.toList.take k).flatMap escB) ++ escB s[k] = 34 :: (s.data.toList.take (k + 1)).flatMap escB := by
  rw [List.take_add_one, ba_at s k hk, Option.toList_some, List.flatMap_append]
  simp
theorem qt_len (l : List UInt8) : (l.flatMap escB).length ≤ 4 * l.length := by
  induction l with
  | nil => simp
  | cons c l ih => have := esc_max c; rw [List.flatMap_cons, List.length_append, List.length_cons]; omega
def QtPost (s : ByteArray) (w : World) (e : Ending) (w' : World) : Prop := e = .returned (.string ⟨(quoteL s.data.toList).toArray⟩) ∧ Ow w w'
end Go.Proofs.YtabopillicdjaaaGreatDoor

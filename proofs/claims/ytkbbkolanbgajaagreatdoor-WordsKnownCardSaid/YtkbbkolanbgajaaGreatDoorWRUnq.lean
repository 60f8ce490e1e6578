/- The reference of chapter 1: Unquote. -/
import Derived.Test.YtkbbkolanbgajaaGreatDoorWRSpl
namespace Go.Proofs.YtkbbkolanbgajaaGreatDoor
open Go.RowKit
open Wd (unqS unqN unquoteS unquoteE)

def RUPost (s : ByteArray) (w : World) (e : Ending) (w' : World) : Prop := e = .returned (.tuple #[.string ⟨(unquoteS s.data.toList).toArray⟩, .int .i64 (unquoteE s.data.toList)]) ∧ Ow w w'
end Go.Proofs.YtkbbkolanbgajaaGreatDoor

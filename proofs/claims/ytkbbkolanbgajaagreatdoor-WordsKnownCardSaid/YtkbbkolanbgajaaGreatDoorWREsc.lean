/- The reference of chapter 1: plain, hex, escaped. -/
import Derived.Test.YtkbbkolanbgajaaGreatDoorWSame
namespace Go.Proofs.YtkbbkolanbgajaaGreatDoor
open Go.RowKit
open Wd (plainB letB escB hexB)

def EPost (c : UInt8) (w : World) (e : Ending) (w' : World) : Prop := e = .returned (.string ⟨(escB c).toArray⟩) ∧ Ow w w'
theorem byte_val {c d : UInt8} (h : c.toNat = d.toNat) : c = d := UInt8.toNat_inj.1 h
theorem conv_new {P : Program} (w : World) (src dst e : TypeId) (hs : P.underlying src = some (.slice e)) (he : P.underlying e = some (.int .u8)) (hd : P.underlying dst = some .string) (l : List UInt8) (cap n : Nat) (hn : n = l.length) (cs : Array Value) (hc : cs = (l.map fun b => Value.int .u8 (b.toNat : Int)).toArray) :
    (convert src dst (.slice (some ⟨w.heap.size, 0, none⟩) n cap)).run P (w.alloc (.cells cs e)) = .ok (.string ⟨l.toArray⟩) (w.alloc (.cells cs e)) := by
  subst hn hc
  refine run_convert_bytes_back _ src dst e ⟨w.heap.size, 0, none⟩ cap l hs he hd (fun j hj => ?_)
  have := cell_of_row (w.alloc (.cells (l.map fun b => Value.int .u8 (b.toNat : Int)).toArray e)) w.heap.size j (l.map fun b => Value.int .u8 (b.toNat : Int)).toArray e (0, 0) (heap_alloc_new w _)
  have ha : (⟨w.heap.size, 0, none⟩ : Addr).add j = ⟨w.heap.size, j, none⟩ := by
    cases j <;> simp [Addr.add]
  rw [ha, this]
  simp [hj]

end Go.Proofs.YtkbbkolanbgajaaGreatDoor

/- Blocks of the call's own, told by what they hold; a fact kept through a region. -/
import Derived.Test.YtaojogaakhidhaaDoorWByte
import Derived.Test.YtaojogaakhidhaaDoorWUtil
import Derived.Deep.RegionHeld3
namespace Go.Proofs.YtaojogaakhidhaaDoor
open Go.RowKit

/-- A block and what it holds. -/
def Bx (b : Nat) (cs : Array Value) (T : TypeId) (w : World) : Prop := w.heap[b]? = some (.cells cs T (0, 0))
theorem Bx.new (w : World) (cs : Array Value) (T : TypeId) : Bx w.heap.size cs T (w.alloc (.cells cs T)) := heap_alloc_new _ _
theorem Bx.lt {b : Nat} {cs : Array Value} {T : TypeId} {w : World} (h : Bx b cs T w) : b < w.heap.size := (Array.getElem?_eq_some_iff.1 h).1
theorem Bx.then {b : Nat} {cs : Array Value} {T : TypeId} {w w' : World} (h : Bx b cs T w) (hb : Ow w w') : Bx b cs T w' := (hb.block b h.lt).trans h
theorem Bx.set {b : Nat} {cs : Array Value} {T : TypeId} {w : World} (h : Bx b cs T w) (i : Nat) (v : Value) : Bx b (cs.setIfInBounds i v) T (w.setCell ⟨b, i, none⟩ v) := heap_setCell_same w b i _ _ _ h
theorem Bx.other {b : Nat} {cs : Array Value} {T : TypeId} {w : World} (h : Bx b cs T w) {c : Nat} (hc : b ≠ c) (i : Nat) (v : Value) : Bx b cs T (w.setCell ⟨c, i, none⟩ v) := (heap_setCell_other w ⟨c, i, none⟩ b v hc).trans h
theorem Bx.at {b : Nat} {cs : Array Value} {T : TypeId} {w : World} (h : Bx b cs T w) {i : Nat} {u : Value} (hu : cs[i]? = some u) : w.cell? ⟨b, i, none⟩ = some u := by rw [cell_of_row _ _ i _ _ _ h]; exact hu
theorem Bx.z {b : Nat} {cs : Array Value} {T : TypeId} {w : World} (h : Bx b cs T w) (i : Nat) : w.frozen? ⟨b, i, none⟩ = false := frozen_of_row w b i cs T h
theorem Bx.alloc {b : Nat} {cs : Array Value} {T : TypeId} {w : World} (h : Bx b cs T w) (o : Obj) : Bx b cs T (w.alloc o) := h.then ((Ow.refl _).alloc _)
theorem Bx.drewN {b : Nat} {cs : Array Value} {T : TypeId} {w : World} (h : Bx b cs T w) (n : Nat) : Bx b cs T (w.drewN n) := h.then ((Ow.refl _).drewN _)
theorem Bx.grown {b : Nat} {cs : Array Value} {T : TypeId} {W W' : World} {row : Option Nat} (h : Bx b cs T W) (hg : W.grownBy W' row) (hr : row ≠ some b) : Bx b cs T W' := (hg.block b h.lt (fun e => hr e.symm)).trans h
/-- A store into a block of the call's own. -/
theorem Ow.set {w W : World} (h : Ow w W) {b : Nat} (hb : w.heap.size ≤ b) (i : Nat) (v : Value) : Ow w (W.setCell ⟨b, i, none⟩ v) :=
  ⟨h.os, h.tape, h.output, by simpa using h.size, fun k hk => (heap_setCell_other W ⟨b, i, none⟩ k v (by simp only; omega)).trans (h.block k hk)⟩
theorem Ow.grow1 {w W w4 : World} {base : Nat} {e : TypeId} {size : Nat} {v : Value} {n : Nat} {xs : List Value} (h : Ow w W) (ho : W.ownsRow base e size v n xs) (hw : w.heap.size ≤ base) (hz : base ≤ W.heap.size) (hg : W.grownBy w4 v.ownBlock) : Ow w w4 :=
  Below.trans h ((own_after ho hg (Below.refl _ _) hz).mono hw)
/-- Between the operations of a region: a cell of the world in which it begins. -/
structure Hn (W : World) (g i : Nat) (v : Value) (w' : World) : Prop where
  ow : Ow W w'
  lt : g < W.heap.size
  c : W.cell? ⟨g, i, none⟩ = some v
theorem Hn.all {W : World} {g i : Nat} {v : Value} {w' : World} (k : Hn W g i v w') : Hn W g i v w' ∧ w'.cell? ⟨g, i, none⟩ = some v := ⟨k, (k.ow.cell (p := ⟨g, i, none⟩) k.lt).trans k.c⟩
theorem Hn.drew {W : World} {g i : Nat} {v : Value} {w' : World} {r : Prop} (k : Hn W g i v w' ∧ r) : Hn W g i v w'.drew := ⟨k.1.ow.drew, k.1.lt, k.1.c⟩
theorem Hn.after {W : World} {g i : Nat} {v : Value} {w' w1 : World} {r : Prop} (hb : Ow w' w1) (k : Hn W g i v w' ∧ r) : Hn W g i v w1 := ⟨k.1.ow.then hb, k.1.lt, k.1.c⟩
theorem Hn.fin {W : World} {g i : Nat} {v : Value} {w' : World} {r : Prop} (k : Hn W g i v w' ∧ r) : Ow W w' := k.1.ow
end Go.Proofs.YtaojogaakhidhaaDoor

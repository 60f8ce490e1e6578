/- Small lemmas for the walks of chapter 1: byte arrays, worlds. Blocks of the call's own, told by what they hold; a fact kept through a region. Arguments opened: operations, answers, slices of operations. -/
import Derived.WalkKit
import Derived.Lib.Hide
import Derived.WalkSmall
import Derived.Lib.Strings
import Derived.Lib.AppendIntMem
import Derived.Lib.UnsafeStr
import Derived.Lib.BufferRead
import Derived.Laws.IdiomStrings
import Derived.Lib.SmallJoins
import Derived.Maps.AppendAt
import Derived.Lib.IndexBytes
import Derived.Test.YtaojogaakhidhaaGreatDoorWByte
import Derived.Deep.RegionHeld3
import Derived.Test.YtaojogaakhidhaaGreatDoorOpPl4
import Derived.Test.YtaojogaakhidhaaGreatDoorOpPl3
import Derived.ProofKit
import Derived.OpenShut
import Derived.Deep.Slices
import Derived.Deep.Fields
import Derived.Deep.SlicePairs
namespace Go.Proofs.YtaojogaakhidhaaGreatDoor
open Go.RowKit Go.Sort

theorem ba_len (s : ByteArray) : s.data.toList.length = s.size := Array.length_toList
theorem ba_at (s : ByteArray) (i : Nat) (h : i < s.size) : s.data.toList[i]? = some s[i] := by
  rw [List.getElem?_eq_getElem (by rw [ba_len]; exact h)]
  rfl
theorem ba_drop (s : ByteArray) (i : Nat) (h : i < s.size) : s.data.toList.drop i = s[i] :: s.data.toList.drop (i + 1) := by
  rw [List.drop_eq_getElem_cons (by rw [ba_len]; exact h)]
  rfl
theorem ba_cons (s : ByteArray) (h : 0 < s.size) : s.data.toList = s[0] :: s.data.toList.drop 1 := ba_drop s 0 h
theorem ba_nil {s : ByteArray} (h : s.size = 0) : s.data.toList = [] := List.length_eq_zero_iff.1 (by rw [ba_len, h])
theorem ba_toList (s : ByteArray) : s.toList = s.data.toList := Lib.toList_data s
theorem ba_empty {s : ByteArray} (h : s.size = 0) : s.toList.isEmpty = true := by rw [ba_toList, ba_nil h]; rfl
theorem ba_full {s : ByteArray} (h : 0 < s.size) : s.toList.isEmpty = false := by rw [ba_toList, ba_cons s h]; rfl
theorem ba_mk (s : ByteArray) : (⟨s.data.toList.toArray⟩ : ByteArray) = s := by cases s; simp
theorem ba_ext {s t : ByteArray} (h : s.data.toList = t.data.toList) : s = t := by rw [← ba_mk s, ← ba_mk t, h]

/-- Whatever lay in w lies as it lay. -/
def Ow (w w' : World) : Prop := Below w.heap.size w w'
theorem Ow.refl (w : World) : Ow w w := Below.refl _ _
theorem Ow.alloc {w W : World} (h : Ow w W) (o : Obj) : Ow w (W.alloc o) := Below.alloc h h.size o
theorem Ow.drewN {w W : World} (h : Ow w W) (n : Nat) : Ow w (W.drewN n) := below_drewN h n
theorem bdrewN {b : Nat} {w W : World} (h : Below b w W) (n : Nat) : Below b w (W.drewN n) := below_drewN h n
theorem Ow.drew {w W : World} (h : Ow w W) : Ow w W.drew := Below.drew h
theorem Ow.then {w W w1 : World} (h : Ow w W) (k : Below W.heap.size W w1) : Ow w w1 := Below.trans h (k.mono h.size)
theorem Ow.grown {w W W' : World} (h : Ow w W) (hw : ∃ k os, W' = grow (W.drewN k) os) : Ow w W' := by
  obtain ⟨k, os, rfl⟩ := hw
  exact h.then (Lib.below_grow _ _ (Nat.le_refl _) _ _)
theorem Ow.drawn {w W W' : World} (h : Ow w W) (hw : ∃ n, W' = W.drewN n) : Ow w W' := by
  obtain ⟨k, rfl⟩ := hw
  exact h.drewN k
theorem grown_of {W w1 : World} (h : Below W.heap.size W w1) : W.grownBy w1 none := ⟨h.os, h.tape, h.output, h.size, fun k hk _ => h.block k hk⟩
theorem own_then {W w1 : World} {base : Nat} {e : TypeId} {size : Nat} {v : Value} {n : Nat} {xs : List Value} (h : W.ownsRow base e size v n xs) (hb : Below W.heap.size W w1) : w1.ownsRow base e size v n xs :=
  h.kept (grown_of hb) (by cases v.ownBlock with | none => exact .inl rfl | some k => exact .inr (by simp))
theorem own_after {w w' : World} {base : Nat} {e : TypeId} {size : Nat} {v : Value} {n : Nat} {xs : List Value} {W : World} (ho : W.ownsRow base e size v n xs) (hg : W.grownBy w' v.ownBlock) (hb : Below base w W) (hw : base ≤ w.heap.size) : Below base w w' :=
  hb.grown hg (Nat.le_trans hw hb.size) (fun k e => (ho.lt k e).1)
/-- Bytes that are the call's own, as a string. -/
theorem own_conv {P : Program} (w : World) (src dst e : TypeId) (hs : P.underlying src = some (.slice e)) (he : P.underlying e = some (.int .u8)) (hd : P.underlying dst = some .string) {base : Nat} {v : Value} {bs : List UInt8}
    (h : w.ownsRow base e 1 v bs.length (Lib.byteCells bs)) : (convert src dst v).run P w = .ok (.string ⟨bs.toArray⟩) w := by
  rcases Joins.ownsRow_forms h with ⟨rfl, h0⟩ | ⟨g, cap, rfl⟩
  · rw [List.length_eq_zero_iff.1 h0]
    exact Lib.run_convert_nil_bytes w src dst e 0 hs he hd
  · refine run_convert_bytes_back w src dst e ⟨g, 0, none⟩ cap bs hs he hd (fun j hj => ?_)
    have := h.cells (g := g) rfl j (.int .u8 (bs[j].toNat : Int)) (by simp [Lib.byteCells, hj])
    exact this
theorem ret2 {k1 k2 : IntKind} {a b c d : Int} (h1 : a = c) (h2 : b = d) : Ending.returned (.tuple #[.int k1 a, .int k2 b]) = .returned (.tuple #[.int k1 c, .int k2 d]) := by rw [h1, h2]
theorem retS {a b : List UInt8} (h : a = b) : Ending.returned (.string ⟨a.toArray⟩) = .returned (.string ⟨b.toArray⟩) := by rw [h]
theorem retB {a b : Bool} (h : a = b) : Ending.returned (.bool a) = .returned (.bool b) := by rw [h]

theorem byte_val {c d : UInt8} (h : c.toNat = d.toNat) : c = d := UInt8.toNat_inj.1 h
theorem conv_new {P : Program} (w : World) (src dst e : TypeId) (hs : P.underlying src = some (.slice e)) (he : P.underlying e = some (.int .u8)) (hd : P.underlying dst = some .string) (l : List UInt8) (cap n : Nat) (hn : n = l.length) (cs : Array Value) (hc : cs = (l.map fun b => Value.int .u8 (b.toNat : Int)).toArray) :
    (convert src dst (.slice (some ⟨w.heap.size, 0, none⟩) n cap)).run P (w.alloc (.cells cs e)) = .ok (.string ⟨l.toArray⟩) (w.alloc (.cells cs e)) := by
  subst hn hc
  refine run_convert_bytes_back _ src dst e ⟨w.heap.size, 0, none⟩ cap l hs he hd (fun j hj => ?_)
  have := cell_of_row (w.alloc (.cells (l.map fun b => Value.int .u8 (b.toNat : Int)).toArray e)) w.heap.size j (l.map fun b => Value.int .u8 (b.toNat : Int)).toArray e (0, 0) (heap_alloc_new w _)
  have ha : (⟨w.heap.size, 0, none⟩ : Addr).add j = ⟨w.heap.size, j, none⟩ := by
    cases j <;> simp [Addr.add]
  rw [ha, this]
  simp [hj]
theorem own_strs {w : World} {base : Nat} {e : TypeId} {v : Value} {L : List ByteArray} (h : w.ownsRow base e 1 v L.length (L.map Value.string)) (hn : 0 < L.length) :
    ∃ g cap, v = .slice (some ⟨g, 0, none⟩) L.length cap ∧ L.length ≤ cap ∧ g < w.heap.size ∧ ∀ (j : Nat) x, L[j]? = some x → w.cell? ⟨g, 0 + j, none⟩ = some (.string x) := by
  have h0 := h
  rcases h.2 with ⟨_, h1⟩ | ⟨g, cap, cur, rfl, hb, hh, hc, hm, hs, ht⟩
  · omega
  · refine ⟨g, cap, rfl, hc, ?_, fun j x hx => ?_⟩
    · rcases Nat.lt_or_ge g w.heap.size with hlt | hge
      · exact hlt
      · rw [Array.getElem?_eq_none hge] at hh; cases hh
    · rw [Nat.zero_add, h0.cellAt j (by have := (List.getElem?_eq_some_iff.1 hx).1; omega), List.getElem?_map, hx]
      rfl
end Go.Proofs.YtaojogaakhidhaaGreatDoor
namespace Go.Proofs.YtaojogaakhidhaaGreatDoor
open Go.RowKit

/-- A block and what it holds. -/
def Bx (b : Nat) (cs : Array Value) (T : TypeId) (w : World) : Prop := w.heap[b]? = some (.cells cs T (0, 0))
theorem Bx.new (w : World) (cs : Array Value) (T : TypeId) : Bx w.heap.size cs T (w.alloc (.cells cs T)) := heap_alloc_new _ _
theorem Bx.lt {b : Nat} {cs : Array Value} {T : TypeId} {w : World} (h : Bx b cs T w) : b < w.heap.size := (Array.getElem?_eq_some_iff.1 h).1
theorem Bx.then {b : Nat} {cs : Array Value} {T : TypeId} {w w' : World} (h : Bx b cs T w) (hb : Ow w w') : Bx b cs T w' := (hb.block b h.lt).trans h
theorem Bx.set {b : Nat} {cs : Array Value} {T : TypeId} {w : World} (h : Bx b cs T w) (i : Nat) (v : Value) : Bx b (cs.setIfInBounds i v) T (w.setCell ⟨b, i, none⟩ v) := heap_setCell_same w b i _ _ _ h
theorem Bx.other {b : Nat} {cs : Array Value} {T : TypeId} {w : World} (h : Bx b cs T w) {c : Nat} (hc : b ≠ c) (i : Nat) (v : Value) : Bx b cs T (w.setCell ⟨c, i, none⟩ v) := (heap_setCell_other w ⟨c, i, none⟩ b v hc).trans h
theorem Bx.at {b : Nat} {cs : Array Value} {T : TypeId} {w : World} (h : Bx b cs T w) {i : Nat} {u : Value} (hu : cs[i]? = some u) : w.cell? ⟨b, i, none⟩ = some u := by rw [cell_of_row _ _ i _ _ _ h]; exact hu
theorem Bx.z {b : Nat} {cs : Array Value} {T : TypeId} {w : World} (h : Bx b cs T w) (i : Nat) : w.frozen? ⟨b, i, none⟩ = false := frozen_of_row w b i cs T h
theorem Bx.alloc {b : Nat} {cs : Array Value} {T : TypeId} {w : World} (h : Bx b cs T w) (o : Obj) : Bx b cs T (w.alloc o) := h.then ((Ow.refl _).alloc _)
theorem Bx.drewN {b : Nat} {cs : Array Value} {T : TypeId} {w : World} (h : Bx b cs T w) (n : Nat) : Bx b cs T (w.drewN n) := h.then ((Ow.refl _).drewN _)
theorem Bx.grown {b : Nat} {cs : Array Value} {T : TypeId} {W W' : World} {row : Option Nat} (h : Bx b cs T W) (hg : W.grownBy W' row) (hr : row ≠ some b) : Bx b cs T W' := (hg.block b h.lt (fun e => hr e.symm)).trans h
/-- A store into a block of the call's own. -/
theorem Ow.set {w W : World} (h : Ow w W) {b : Nat} (hb : w.heap.size ≤ b) (i : Nat) (v : Value) : Ow w (W.setCell ⟨b, i, none⟩ v) :=
  ⟨h.os, h.tape, h.output, by simpa using h.size, fun k hk => (heap_setCell_other W ⟨b, i, none⟩ k v (by simp only; omega)).trans (h.block k hk)⟩
theorem Ow.grow1 {w W w4 : World} {base : Nat} {e : TypeId} {size : Nat} {v : Value} {n : Nat} {xs : List Value} (h : Ow w W) (ho : W.ownsRow base e size v n xs) (hw : w.heap.size ≤ base) (hz : base ≤ W.heap.size) (hg : W.grownBy w4 v.ownBlock) : Ow w w4 :=
  Below.trans h ((own_after ho hg (Below.refl _ _) hz).mono hw)
/-- Between the operations of a region: a cell of the world in which it begins. -/
structure Hn (W : World) (g i : Nat) (v : Value) (w' : World) : Prop where
  ow : Ow W w'
  lt : g < W.heap.size
  c : W.cell? ⟨g, i, none⟩ = some v
theorem Hn.all {W : World} {g i : Nat} {v : Value} {w' : World} (k : Hn W g i v w') : Hn W g i v w' ∧ w'.cell? ⟨g, i, none⟩ = some v := ⟨k, (k.ow.cell (p := ⟨g, i, none⟩) k.lt).trans k.c⟩
theorem Hn.drew {W : World} {g i : Nat} {v : Value} {w' : World} {r : Prop} (k : Hn W g i v w' ∧ r) : Hn W g i v w'.drew := ⟨k.1.ow.drew, k.1.lt, k.1.c⟩
theorem Hn.after {W : World} {g i : Nat} {v : Value} {w' w1 : World} {r : Prop} (hb : Ow w' w1) (k : Hn W g i v w' ∧ r) : Hn W g i v w1 := ⟨k.1.ow.then hb, k.1.lt, k.1.c⟩
theorem Hn.fin {W : World} {g i : Nat} {v : Value} {w' : World} {r : Prop} (k : Hn W g i v w' ∧ r) : Ow W w' := k.1.ow
end Go.Proofs.YtaojogaakhidhaaGreatDoor
namespace Go.Proofs.YtaojogaakhidhaaGreatDoor
open Go.RowKit Go.ChangeShapes Go.WideShapes Go.Deep
open Sc (OC OA WfC WfA)

/-- The cells of an operation, of an answer. -/
def ocells (c : OC) : Array Value := #[.int .i64 c.k, .int .i64 c.a, .int .i64 c.b, .int .i64 c.f, .int .i64 c.p, .int .i64 c.r, .int .u64 c.v]
def acells (a : OA) : Array Value := #[.int .i64 a.e, .bool a.is, .int .u64 a.v]
theorem wf_u64 {v : Int} (h : (Lit.int .u64 v).wf = true) : 0 ≤ v ∧ v < 18446744073709551616 := by
  simp [Lit.wf, IntKind.min, IntKind.max, IntKind.signed, IntKind.bits] at h
  omega
section
variable {H : Type} {enc : TypeId × Value → H} {w : World} {base : Nat} {spare : Nat → Bool} {held : Bool}
set_option maxRecDepth 100000 in
set_option maxHeartbeats 1000000 in
theorem oc_of {fuel : Nat} {vs : List Value} {y : DataW H × List MemPlace} (hlen : vs.length = 7) (h : DataW.trod enc Tryz.prog w base spare held fuel 25 vs = some y) : ∃ c : OC, vs = (ocells c).toList ∧ WfC c := by
  obtain ⟨xs, n, _, _, _, hxl, hf⟩ := DataW.trod_struct Tryz.underlying25 h
  match vs, hlen with
  | [v0, v1, v2, v3, v4, v5, v6], _ =>
    have t0 : DataW.trod enc Tryz.prog w base spare held n 3 [v0] = xs[0]? := hf 0 _ rfl
    have t1 : DataW.trod enc Tryz.prog w base spare held n 3 [v1] = xs[1]? := hf 1 _ rfl
    have t2 : DataW.trod enc Tryz.prog w base spare held n 3 [v2] = xs[2]? := hf 2 _ rfl
    have t3 : DataW.trod enc Tryz.prog w base spare held n 3 [v3] = xs[3]? := hf 3 _ rfl
    have t4 : DataW.trod enc Tryz.prog w base spare held n 3 [v4] = xs[4]? := hf 4 _ rfl
    have t5 : DataW.trod enc Tryz.prog w base spare held n 3 [v5] = xs[5]? := hf 5 _ rfl
    have t6 : DataW.trod enc Tryz.prog w base spare held n 23 [v6] = xs[6]? := hf 6 _ rfl
    have g : ∀ {T : TypeId} {k : IntKind} {u : Value} {z : Option (DataW H × List MemPlace)} {j : Nat}, Tryz.prog.underlying T = some (.int k) → DataW.trod enc Tryz.prog w base spare held n T [u] = xs[j]? → j < xs.length → ∃ x, u = .int k x ∧ (Lit.int k x).wf = true := by
      intro T k u z j hu ht hj
      obtain ⟨x, e, _, hw⟩ := DataW.trod_int hu (ht.trans (List.getElem?_eq_getElem hj))
      simp only [List.cons.injEq, and_true] at e
      exact ⟨x, e, hw⟩
    have hx7 : xs.length = 7 := by rw [hxl]; rfl
    obtain ⟨c0, rfl, _⟩ := g (z := none) Tryz.underlying3 t0 (by omega)
    obtain ⟨c1, rfl, _⟩ := g (z := none) Tryz.underlying3 t1 (by omega)
    obtain ⟨c2, rfl, _⟩ := g (z := none) Tryz.underlying3 t2 (by omega)
    obtain ⟨c3, rfl, _⟩ := g (z := none) Tryz.underlying3 t3 (by omega)
    obtain ⟨c4, rfl, _⟩ := g (z := none) Tryz.underlying3 t4 (by omega)
    obtain ⟨c5, rfl, _⟩ := g (z := none) Tryz.underlying3 t5 (by omega)
    obtain ⟨c6, rfl, w6⟩ := g (z := none) Tryz.underlying23 t6 (by omega)
    exact ⟨⟨c0, c1, c2, c3, c4, c5, c6⟩, rfl, wf_u64 w6⟩
end
end Go.Proofs.YtaojogaakhidhaaGreatDoor

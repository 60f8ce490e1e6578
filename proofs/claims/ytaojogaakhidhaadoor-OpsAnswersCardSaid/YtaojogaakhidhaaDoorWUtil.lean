/- Small lemmas for the walks of chapter 1: byte arrays, worlds. -/
import Derived.WalkKit
import Derived.Lib.Hide
import Derived.WalkSmall
import Derived.Lib.Strings
import Derived.Lib.AppendIntMem
import Derived.Lib.UnsafeStr
import Derived.Lib.BufferRead
import Derived.Laws.IdiomStrings
import Derived.Lib.SmallJoins
import Derived.Maps.AppendAt
import Derived.Lib.IndexBytes
namespace Go.Proofs.YtaojogaakhidhaaDoor
open Go.RowKit Go.Sort

theorem ba_len (s : ByteArray) : s.data.toList.length = s.size := Array.length_toList
theorem ba_at (s : ByteArray) (i : Nat) (h : i < s.size) : s.data.toList[i]? = some s[i] := by
  rw [List.getElem?_eq_getElem (by rw [ba_len]; exact h)]
  rfl
theorem ba_drop (s : ByteArray) (i : Nat) (h : i < s.size) : s.data.toList.drop i = s[i] :: s.data.toList.drop (i + 1) := by
  rw [List.drop_eq_getElem_cons (by rw [ba_len]; exact h)]
  rfl
theorem ba_cons (s : ByteArray) (h : 0 < s.size) : s.data.toList = s[0] :: s.data.toList.drop 1 := ba_drop s 0 h
theorem ba_nil {s : ByteArray} (h : s.size = 0) : s.data.toList = [] := List.length_eq_zero_iff.1 (by rw [ba_len, h])
theorem ba_toList (s : ByteArray) : s.toList = s.data.toList := Lib.toList_data s
theorem ba_empty {s : ByteArray} (h : s.size = 0) : s.toList.isEmpty = true := by rw [ba_toList, ba_nil h]; rfl
theorem ba_full {s : ByteArray} (h : 0 < s.size) : s.toList.isEmpty = false := by rw [ba_toList, ba_cons s h]; rfl
theorem ba_mk (s : ByteArray) : (⟨s.data.toList.toArray⟩ : ByteArray) = s := by cases s; simp
theorem ba_ext {s t : ByteArray} (h : s.data.toList = t.data.toList) : s = t := by rw [← ba_mk s, ← ba_mk t, h]

/-- Whatever lay in w lies as it lay. -/
def Ow (w w' : World) : Prop := Below w.heap.size w w'
theorem Ow.refl (w : World) : Ow w w := Below.refl _ _
theorem Ow.alloc {w W : World} (h : Ow w W) (o : Obj) : Ow w (W.alloc o) := Below.alloc h h.size o
theorem Ow.drewN {w W : World} (h : Ow w W) (n : Nat) : Ow w (W.drewN n) := below_drewN h n
theorem bdrewN {b : Nat} {w W : World} (h : Below b w W) (n : Nat) : Below b w (W.drewN n) := below_drewN h n
theorem Ow.drew {w W : World} (h : Ow w W) : Ow w W.drew := Below.drew h
theorem Ow.then {w W w1 : World} (h : Ow w W) (k : Below W.heap.size W w1) : Ow w w1 := Below.trans h (k.mono h.size)
theorem Ow.grown {w W W' : World} (h : Ow w W) (hw : ∃ k os, W' = grow (W.drewN k) os) : Ow w W' := by
  obtain ⟨k, os, rfl⟩ := hw
  exact h.then (Lib.below_grow _ _ (Nat.le_refl _) _ _)
theorem Ow.drawn {w W W' : World} (h : Ow w W) (hw : ∃ n, W' = W.drewN n) : Ow w W' := by
  obtain ⟨k, rfl⟩ := hw
  exact h.drewN k
theorem grown_of {W w1 : World} (h : Below W.heap.size W w1) : W.grownBy w1 none := ⟨h.os, h.tape, h.output, h.size, fun k hk _ => h.block k hk⟩
theorem own_then {W w1 : World} {base : Nat} {e : TypeId} {size : Nat} {v : Value} {n : Nat} {xs : List Value} (h : W.ownsRow base e size v n xs) (hb : Below W.heap.size W w1) : w1.ownsRow base e size v n xs :=
  h.kept (grown_of hb) (by cases v.ownBlock with | none => exact .inl rfl | some k => exact .inr (by simp))
theorem own_after {w w' : World} {base : Nat} {e : TypeId} {size : Nat} {v : Value} {n : Nat} {xs : List Value} {W : World} (ho : W.ownsRow base e size v n xs) (hg : W.grownBy w' v.ownBlock) (hb : Below base w W) (hw : base ≤ w.heap.size) : Below base w w' :=
  hb.grown hg (Nat.le_trans hw hb.size) (fun k e => (ho.lt k e).1)
/-- Bytes that are the call's own, as a string. -/
theorem own_conv {P : Program} (w : World) (src dst e : TypeId) (hs : P.underlying src = some (.slice e)) (he : P.underlying e = some (.int .u8)) (hd : P.underlying dst = some .string) {base : Nat} {v : Value} {bs : List UInt8}
    (h : w.ownsRow base e 1 v bs.length (Lib.byteCells bs)) : (convert src dst v).run P w = .ok (.string ⟨bs.toArray⟩) w := by
  rcases Joins.ownsRow_forms h with ⟨rfl, h0⟩ | ⟨g, cap, rfl⟩
  · rw [List.length_eq_zero_iff.1 h0]
    exact Lib.run_convert_nil_bytes w src dst e 0 hs he hd
  · refine run_convert_bytes_back w src dst e ⟨g, 0, none⟩ cap bs hs he hd (fun j hj => ?_)
    have := h.cells (g := g) rfl j (.int .u8 (bs[j].toNat : Int)) (by simp [Lib.byteCells, hj])
    exact this
theorem ret2 {k1 k2 : IntKind} {a b c d : Int} (h1 : a = c) (h2 : b = d) : Ending.returned (.tuple #[.int k1 a, .int k2 b]) = .returned (.tuple #[.int k1 c, .int k2 d]) := by rw [h1, h2]
theorem retS {a b : List UInt8} (h : a = b) : Ending.returned (.string ⟨a.toArray⟩) = .returned (.string ⟨b.toArray⟩) := by rw [h]
theorem retB {a b : Bool} (h : a = b) : Ending.returned (.bool a) = .returned (.bool b) := by rw [h]

theorem byte_val {c d : UInt8} (h : c.toNat = d.toNat) : c = d := UInt8.toNat_inj.1 h
theorem conv_new {P : Program} (w : World) (src dst e : TypeId) (hs : P.underlying src = some (.slice e)) (he : P.underlying e = some (.int .u8)) (hd : P.underlying dst = some .string) (l : List UInt8) (cap n : Nat) (hn : n = l.length) (cs : Array Value) (hc : cs = (l.map fun b => Value.int .u8 (b.toNat : Int)).toArray) :
    (convert src dst (.slice (some ⟨w.heap.size, 0, none⟩) n cap)).run P (w.alloc (.cells cs e)) = .ok (.string ⟨l.toArray⟩) (w.alloc (.cells cs e)) := by
  subst hn hc
  refine run_convert_bytes_back _ src dst e ⟨w.heap.size, 0, none⟩ cap l hs he hd (fun j hj => ?_)
  have := cell_of_row (w.alloc (.cells (l.map fun b => Value.int .u8 (b.toNat : Int)).toArray e)) w.heap.size j (l.map fun b => Value.int .u8 (b.toNat : Int)).toArray e (0, 0) (heap_alloc_new w _)
  have ha : (⟨w.heap.size, 0, none⟩ : Addr).add j = ⟨w.heap.size, j, none⟩ := by
    cases j <;> simp [Addr.add]
  rw [ha, this]
  simp [hj]
theorem own_strs {w : World} {base : Nat} {e : TypeId} {v : Value} {L : List ByteArray} (h : w.ownsRow base e 1 v L.length (L.map Value.string)) (hn : 0 < L.length) :
    ∃ g cap, v = .slice (some ⟨g, 0, none⟩) L.length cap ∧ L.length ≤ cap ∧ g < w.heap.size ∧ ∀ (j : Nat) x, L[j]? = some x → w.cell? ⟨g, 0 + j, none⟩ = some (.string x) := by
  have h0 := h
  rcases h.2 with ⟨_, h1⟩ | ⟨g, cap, cur, rfl, hb, hh, hc, hm, hs, ht⟩
  · omega
  · refine ⟨g, cap, rfl, hc, ?_, fun j x hx => ?_⟩
    · rcases Nat.lt_or_ge g w.heap.size with hlt | hge
      · exact hlt
      · rw [Array.getElem?_eq_none hge] at hh; cases hh
    · rw [Nat.zero_add, h0.cellAt j (by have := (List.getElem?_eq_some_iff.1 hx).1; omega), List.getElem?_map, hx]
      rfl
end Go.Proofs.YtaojogaakhidhaaDoor

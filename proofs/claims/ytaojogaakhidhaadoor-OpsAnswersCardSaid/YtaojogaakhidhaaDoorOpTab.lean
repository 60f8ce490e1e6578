/- Package ops: table, number. -/
import Derived.Test.YtaojogaakhidhaaDoorOpArg
import Derived.Great.BuildSlice
namespace Go.Proofs.YtaojogaakhidhaaDoor
open Go.RowKit
open Sc (OC OA WfC WfA kf kw num setN)

theorem Bx.row {b : Nat} {cs : Array Value} {T : TypeId} {w : World} (h : Bx b cs T w) {c : Nat} (hc : b ≠ c) (x : Array Value) : Bx b cs T (w.setRow c x) := (setRow_other w c b x hc).trans h
theorem Ow.row {w W : World} (h : Ow w W) {b : Nat} (hb : w.heap.size ≤ b) (x : Array Value) : Ow w (W.setRow b x) :=
  ⟨h.os, h.tape, h.output, by simpa using h.size, fun k hk => (setRow_other W b k x (by omega)).trans (h.block k hk)⟩
def intCells (zs : List Int) : Array Value := (zs.map (Value.int .i64)).toArray
/-- What a walk over slice literals holds: the result's block, and the blocks laid. -/
structure TB (w : World) (z : Array Value) (T : TypeId) (L : List (Nat × List Int)) (W : World) : Prop where
  ow : Ow w W
  res : W.heap[w.heap.size]? = some (.cells z T (0, 0))
  rows : ∀ p ∈ L, w.heap.size < p.1 ∧ Bx p.1 (intCells p.2) 3 W
theorem TB.start (w : World) (z : Array Value) (T : TypeId) : TB w z T [] (w.alloc (.cells z T)) := ⟨(Ow.refl _).alloc _, heap_alloc_new _ _, fun p hp => by simp at hp⟩
theorem TB.step {w W : World} {z : Array Value} {T : TypeId} {L : List (Nat × List Int)} (h : TB w z T L W) (zs : List Int) : TB w z T ((W.heap.size, zs) :: L) (W.alloc (.cells (intCells zs) 3)) := by
  have hlt : w.heap.size < W.heap.size := (Array.getElem?_eq_some_iff.1 h.res).1
  refine ⟨h.ow.alloc _, ?_, fun p hp => ?_⟩
  · exact (((Below.refl W.heap.size W).alloc (Nat.le_refl _) _).block _ hlt).trans h.res
  · rcases List.mem_cons.1 hp with rfl | hp
    · exact ⟨hlt, Bx.new _ _ _⟩
    · exact ⟨(h.rows p hp).1, (h.rows p hp).2.alloc _⟩
theorem bs_arm {w W : World} {z : Array Value} {T : TypeId} {L : List (Nat × List Int)} (acc : TB w z T L W) (zs : List Int) {ops : Array Oper} {rest : List Oper} {o : Oper} {a : Act} {Q : Exit → Act → World → Prop} (hg : o.guard = none) (len : Nat) (parts : Array (Nat × Operand)) (ho : o.op = .buildSlice 54 len parts)
    (hlen : len = zs.length) (hpos : 0 < len) (hsmall : len ≤ 2 ^ 24)
    (hparts : parts.toList = (zs.zipIdx 0).map fun x => (x.2, Operand.const (Value.int .i64 x.1)))
    (h : ∀ g W', g = W.heap.size → TB w z T ((g, zs) :: L) W' → wpList Tryd.prog ops Q rest (a.put o.dst (.slice (some ⟨g, 0, none⟩) len len)) W') : wpList Tryd.prog ops Q (o :: rest) a W :=
  wpList_buildFlat hg 54 3 len parts ho .i64 zs Tryd.underlying54 (by kernel_rfl) (by kernel_rfl) hlen hpos hsmall hparts (h _ _ rfl (acc.step zs))
/-- What table returns: the blocks of the fields by a function. -/
def tabCells (g : Nat → Nat) : Array Value := #[.string ⟨#[]⟩, .slice none 0 0,
  .string ⟨#[97, 108, 108, 111, 99]⟩, .slice (some ⟨g 1, 0, none⟩) 3 3, .string ⟨#[108, 111, 97, 100]⟩, .slice (some ⟨g 2, 0, none⟩) 3 3,
  .string ⟨#[115, 116, 111, 114, 101]⟩, .slice (some ⟨g 3, 0, none⟩) 3 3, .string ⟨#[114, 101, 97, 100]⟩, .slice (some ⟨g 4, 0, none⟩) 2 2,
  .string ⟨#[119, 114, 105, 116, 101]⟩, .slice (some ⟨g 5, 0, none⟩) 3 3, .string ⟨#[109, 111, 118, 101]⟩, .slice (some ⟨g 6, 0, none⟩) 2 2,
  .string ⟨#[99, 108, 101, 97, 114]⟩, .slice (some ⟨g 7, 0, none⟩) 1 1, .string ⟨#[115, 97, 109, 101]⟩, .slice (some ⟨g 8, 0, none⟩) 2 2,
  .string ⟨#[110, 105, 108]⟩, .slice (some ⟨g 9, 0, none⟩) 1 1, .string ⟨#[115, 105, 122, 101]⟩, .slice (some ⟨g 10, 0, none⟩) 1 1,
  .string ⟨#[99, 111, 108, 108, 101, 99, 116]⟩, .slice none 0 0]
def kfInts (k : Nat) : List Int := (kf (k : Int)).map fun i : Nat => (i : Int)
def zero24 : Array Value := #[.string ⟨#[]⟩, .slice none 0 0, .string ⟨#[]⟩, .slice none 0 0, .string ⟨#[]⟩, .slice none 0 0, .string ⟨#[]⟩, .slice none 0 0, .string ⟨#[]⟩, .slice none 0 0, .string ⟨#[]⟩, .slice none 0 0, .string ⟨#[]⟩, .slice none 0 0, .string ⟨#[]⟩, .slice none 0 0, .string ⟨#[]⟩, .slice none 0 0, .string ⟨#[]⟩, .slice none 0 0, .string ⟨#[]⟩, .slice none 0 0, .string ⟨#[]⟩, .slice none 0 0]
set_option maxRecDepth 100000 in
set_option maxHeartbeats 8000000 in
theorem table_any (w : World) : Calls Tryd.prog 25 #[] w fun e w' => ∃ g : Nat → Nat, e = .returned (.agg (tabCells g)) ∧ Ow w w' ∧ ∀ k : Nat, 1 ≤ k → k ≤ 10 → w.heap.size < g k ∧ Bx (g k) (intCells (kfInts k)) 3 w' := by
  have acc : Hid (TB w zero24 57 [] (w.alloc (.cells zero24 57))) := TB.start _ _ _
  go_enter Tryd.func25, Tryd.ntmps25
  go_wp2_with (first
    | (refine bs_arm acc.out [1, 4, 5] rfl _ _ rfl rfl (by decide) (by decide) rfl ?_; intro g1 W1 e1 acc1; clear acc; have acc := Lib.hid acc1; clear acc1)
    | (refine bs_arm acc.out [1, 2, 3] rfl _ _ rfl rfl (by decide) (by decide) rfl ?_; intro g1 W1 e1 acc1; clear acc; have acc := Lib.hid acc1; clear acc1)
    | (refine bs_arm acc.out [1, 3, 2] rfl _ _ rfl rfl (by decide) (by decide) rfl ?_; intro g1 W1 e1 acc1; clear acc; have acc := Lib.hid acc1; clear acc1)
    | (refine bs_arm acc.out [1, 3] rfl _ _ rfl rfl (by decide) (by decide) rfl ?_; intro g1 W1 e1 acc1; clear acc; have acc := Lib.hid acc1; clear acc1)
    | (refine bs_arm acc.out [1, 3, 6] rfl _ _ rfl rfl (by decide) (by decide) rfl ?_; intro g1 W1 e1 acc1; clear acc; have acc := Lib.hid acc1; clear acc1)
    | (refine bs_arm acc.out [1, 2] rfl _ _ rfl rfl (by decide) (by decide) rfl ?_; intro g1 W1 e1 acc1; clear acc; have acc := Lib.hid acc1; clear acc1)
    | (refine bs_arm acc.out [1] rfl _ _ rfl rfl (by decide) (by decide) rfl ?_; intro g1 W1 e1 acc1; clear acc; have acc := Lib.hid acc1; clear acc1)
    | (refine wpList_store_rowOf rfl 57 (.tmp 0) (.tmp 22) rfl w.heap.size (by kernel_rfl) (by kernel_rfl) 57 _ acc.out.res (by kernel_rfl) (by kernel_rfl) (by kernel_rfl) ?_))
  rename_i b1 V1 f1 b2 V2 f2 b3 V3 f3 b4 V4 f4 b5 V5 f5 b6 V6 f6 b7 V7 f7 b8 V8 f8 b9 V9 f9
  have hW := acc.out
  have hs : (w.alloc (.cells zero24 57)).heap.size = w.heap.size + 1 := by simp
  refine bodyPost_ret (v := .agg (tabCells fun k => [0, w.heap.size + 1, V1.heap.size, V2.heap.size, V3.heap.size, V4.heap.size, V5.heap.size, V6.heap.size, V7.heap.size, V8.heap.size, V9.heap.size].getD k 0))
    (results_cell_row Tryd.results25 _ _ w.heap.size 57 _ (0, 0) _ (by kernel_rfl) (setRow_heap _ _ _ _ _ _ hW.res) Tryd.underlying57 rfl (by kernel_rfl)) rfl ⟨_, rfl, hW.ow.row (Nat.le_refl _) _, ?_⟩
  generalize Value.cells (Act.eval _ (.tmp 22)) = x
  intro k hk1 hk2
  have hall : ∀ p ∈ [(g1, [1]), (b9, [1]), (b8, [1, 2]), (b7, [1]), (b6, [1, 2]), (b5, [1, 3, 6]), (b4, [1, 3]), (b3, [1, 3, 2]), (b2, [1, 2, 3]), (b1, [1, 4, 5])], w.heap.size < p.1 ∧ Bx p.1 (intCells p.2) 3 (W1.setRow w.heap.size x) := fun p hp => ⟨(hW.rows p hp).1, (hW.rows p hp).2.row (by have := (hW.rows p hp).1; omega) _⟩
  obtain rfl | rfl | rfl | rfl | rfl | rfl | rfl | rfl | rfl | rfl : k = 1 ∨ k = 2 ∨ k = 3 ∨ k = 4 ∨ k = 5 ∨ k = 6 ∨ k = 7 ∨ k = 8 ∨ k = 9 ∨ k = 10 := by omega
  · have := hall (b1, [1, 4, 5]) (by simp); rw [f1, hs] at this; exact this
  · have := hall (b2, [1, 2, 3]) (by simp); rw [f2] at this; exact this
  · have := hall (b3, [1, 3, 2]) (by simp); rw [f3] at this; exact this
  · have := hall (b4, [1, 3]) (by simp); rw [f4] at this; exact this
  · have := hall (b5, [1, 3, 6]) (by simp); rw [f5] at this; exact this
  · have := hall (b6, [1, 2]) (by simp); rw [f6] at this; exact this
  · have := hall (b7, [1]) (by simp); rw [f7] at this; exact this
  · have := hall (b8, [1, 2]) (by simp); rw [f8] at this; exact this
  · have := hall (b9, [1]) (by simp); rw [f9] at this; exact this
  · have := hall (g1, [1]) (by simp); rw [e1] at this; exact this
end Go.Proofs.YtaojogaakhidhaaDoor

/- Arguments opened: slices of fields, of integers. -/
import Derived.Test.YtabopillicdjaaaGreatDoorWJn
import Derived.ProofKit
import Derived.OpenShut
import Derived.Deep.SlicePairs
namespace Go.Proofs.YtabopillicdjaaaGreatDoor
open Go.RowKit Go.ChangeShapes Go.WideShapes Go.Deep

theorem spot_none {w : World} {a : Addr} {v : Value} (h : w.cell? a = some v) : a = ⟨a.block, a.off, none⟩ := by
  unfold World.cell? at h
  split at h
  · split at h
    · cases h
    · rename_i hs
      obtain ⟨b, o, s⟩ := a
      cases s with
      | none => rfl
      | some x => simp at hs
  · cases h
def strOf : Value → List UInt8 | .string s => s.data.toList | _ => []
def boolOf : Value → Bool | .bool b => b | _ => false
set_option maxRecDepth 100000 in
theorem open_flds {H : Type} {enc : TypeId × Value → H} {w : World} {base : Nat} {spare : Nat → Bool} {held : Bool} {r : Reach} {b0 : Nat} {v : Value} {d : DataW H} {p : List MemPlace}
    (hv : Value.okWide Tryz.prog w r b0 22 v) (h : DataW.Trod enc Tryz.prog w base spare held 22 v d p) : ∃ fs : List (List UInt8 × Bool), FldsA w v fs ∧ fs.length ≤ maxLen := by
  obtain ⟨a0, len0, cap0, rfl⟩ := okWide_slice Tryz.underlying22 hv
  obtain ⟨fuel, hf⟩ := h
  rcases open_slice_pairs Tryz.underlying22 Tryz.underlying51 (by kernel_rfl) rfl rfl (by kernel_rfl) (by kernel_rfl) hf with ⟨hcs, _⟩ | ⟨a, len, cap, m, n, V0, V1, D0, D1, P0, P1, hcs, _, hl, hm, hmm, _, hx⟩
  · simp only [Value.cells, List.cons.injEq, Value.slice.injEq, and_true] at hcs
    obtain ⟨rfl, rfl, rfl⟩ := hcs
    exact ⟨[], .inl ⟨rfl, _, _, rfl⟩, by simp⟩
  · simp only [Value.cells, List.cons.injEq, Value.slice.injEq, and_true] at hcs
    obtain ⟨rfl, rfl, rfl⟩ := hcs
    have hlm : len0 ≤ m := by rw [hmm]; split <;> omega
    refine ⟨(List.range len0).map fun i => (strOf (V0 i), boolOf (V1 i)), ?_, by rw [List.length_map, List.length_range]; omega⟩
    by_cases h0 : len0 = 0
    · subst h0
      exact .inl ⟨rfl, _, _, rfl⟩
    · obtain ⟨hc, _⟩ := hx 0 (by omega)
      have ha : a = ⟨a.block, a.off, none⟩ := spot_none (by simpa [Addr.add] using hc)
      generalize hb : a.block = g at ha
      generalize ho : a.off = off at ha
      subst ha
      refine .inr ⟨by simpa using h0, g, off, cap0, by rw [List.length_map, List.length_range], lt_of_cell (o := off) (by simpa [Addr.add] using hc), fun i x hi => ?_⟩
      have hil : i < len0 := by have := (List.getElem?_eq_some_iff.1 hi).1; simpa using this
      obtain ⟨k0, k1, t0, t1⟩ := hx i (by omega)
      obtain ⟨s, e0, _⟩ := DataW.trod_string Tryz.underlying9 t0
      obtain ⟨b, e1, _⟩ := DataW.trod_bool Tryz.underlying4 t1
      simp only [List.cons.injEq, and_true] at e0 e1
      have hxe : x = (strOf (V0 i), boolOf (V1 i)) := by
        rw [List.getElem?_map, List.getElem?_range hil] at hi
        simpa using hi.symm
      subst hxe
      rw [e0] at k0
      rw [e1] at k1
      rw [e0, e1]
      refine ⟨?_, ?_⟩
      · have : (⟨(strOf (.string s)).toArray⟩ : ByteArray) = s := ba_mk s
        rw [this, ← k0]
        by_cases hi0 : i = 0
        · subst hi0; simp [Addr.add]
        · unfold Addr.add; rw [if_neg (by omega)]
      · show w.cell? ⟨g, off + i * 2 + 1, none⟩ = some (.bool b)
        rw [← k1]; unfold Addr.add; rw [if_neg (by omega), Nat.add_assoc]
/-- A slice of integers, wherever it lies. -/
def IntsA (w : World) (v : Value) (l : List Int) : Prop := (l = [] ∧ ∃ a cap, v = .slice a 0 cap) ∨ (l ≠ [] ∧ ∃ g off cap, v = .slice (some ⟨g, off, none⟩) l.length cap ∧ Ints w g off l)
theorem IntsA.then {w w' : World} {v : Value} {l : List Int} (h : IntsA w v l) (hb : Ow w w') : IntsA w' v l := by
  rcases h with h | ⟨h0, g, off, cap, h1, h2⟩
  · exact .inl h
  · exact .inr ⟨h0, g, off, cap, h1, h2.then hb⟩
set_option maxRecDepth 100000 in
theorem open_intsA {H : Type} {enc : TypeId × Value → H} {w : World} {base : Nat} {spare : Nat → Bool} {held : Bool} {r : Reach} {b0 : Nat} {v : Value} {d : DataW H} {p : List MemPlace}
    (hv : Value.okWide Tryz.prog w r b0 23 v) (h : DataW.Trod enc Tryz.prog w base spare held 23 v d p) : ∃ l : List Int, IntsA w v l ∧ l.length ≤ maxLen ∧ ∀ n ∈ l, (Lit.int .i64 n).wf = true := by
  obtain ⟨a0, len0, cap0, rfl⟩ := okWide_slice Tryz.underlying23 hv
  obtain ⟨fuel, hf⟩ := h
  rcases open_ints Tryz.underlying23 Tryz.underlying3 (by kernel_rfl) hf with ⟨hcs, _⟩ | ⟨a, len, cap, zs, hcs, _, hl, hm, hz, _, hcell, hwz⟩
  · simp only [Value.cells, List.cons.injEq, Value.slice.injEq, and_true] at hcs
    obtain ⟨rfl, rfl, rfl⟩ := hcs
    exact ⟨[], .inl ⟨rfl, _, _, rfl⟩, by simp, by simp⟩
  · simp only [Value.cells, List.cons.injEq, Value.slice.injEq, and_true] at hcs
    obtain ⟨rfl, rfl, rfl⟩ := hcs
    have hlm : len0 ≤ zs.length := by rw [hz]; split <;> omega
    refine ⟨zs.take len0, ?_, by rw [List.length_take]; omega, fun n hn => hwz n (List.mem_of_mem_take hn)⟩
    by_cases h0 : len0 = 0
    · subst h0
      exact .inl ⟨rfl, _, _, rfl⟩
    · have hc := hcell 0 (by omega)
      have ha : a = ⟨a.block, a.off, none⟩ := spot_none (by simpa [Addr.add] using hc)
      generalize hb : a.block = g at ha
      generalize ho : a.off = off at ha
      subst ha
      have htl : (zs.take len0).length = len0 := by rw [List.length_take]; omega
      refine .inr ⟨fun e => h0 (by rw [← htl, e]; rfl), g, off, cap0, by rw [htl], lt_of_cell (o := off) (by simpa [Addr.add] using hc), fun i x hi => ?_⟩
      have hil : i < len0 := by have := (List.getElem?_eq_some_iff.1 hi).1; omega
      have k := hcell i (by omega)
      have hxe : zs.getD i 0 = x := by
        rw [List.getElem?_take, if_pos hil] at hi
        simp [List.getD, hi]
      rw [hxe] at k
      rw [← k]
      by_cases hi0 : i = 0
      · subst hi0; simp [Addr.add]
      · simp [Addr.add, hi0]
end Go.Proofs.YtabopillicdjaaaGreatDoor

/- Slices of strings; strings.Split at one byte. -/
import Derived.Test.YtabopillicdjaaaGreatDoorWByte
import Derived.Test.YtabopillicdjaaaGreatDoorWUtil
import Derived.Test.YtabopillicdjaaaGreatDoorWJoin
import Derived.Test.YtabopillicdjaaaGreatDoorShelf
namespace Go.Proofs.YtabopillicdjaaaGreatDoor
open Go.RowKit
open Wd (partsL)

/-- A slice of strings, wherever it lies. -/
def StrsA (w : World) (v : Value) (L : List (List UInt8)) : Prop :=
  (L = [] ∧ ∃ a cap, v = .slice a 0 cap) ∨ (L ≠ [] ∧ ∃ g off cap, v = .slice (some ⟨g, off, none⟩) L.length cap ∧ g < w.heap.size ∧ ∀ (i : Nat) x, L[i]? = some x → w.cell? ⟨g, off + i, none⟩ = some (.string ⟨x.toArray⟩))
theorem StrsA.then {w w' : World} {v : Value} {L : List (List UInt8)} (h : StrsA w v L) (hb : Ow w w') : StrsA w' v L := by
  rcases h with h | ⟨h0, g, off, cap, h1, h2, h3⟩
  · exact .inl h
  · exact .inr ⟨h0, g, off, cap, h1, Nat.lt_of_lt_of_le h2 hb.size, fun i x hx => (hb.cell (p := ⟨g, off + i, none⟩) h2).trans (h3 i x hx)⟩
theorem strs_own {w : World} {base : Nat} {v : Value} {xs : List ByteArray} {L : List (List UInt8)} (h : w.ownsRow base 9 1 v xs.length (xs.map Value.string)) (hL : xs.map (·.data.toList) = L) : StrsA w v L := by
  subst hL
  rcases Nat.eq_zero_or_pos xs.length with h0 | h0
  · have hx : xs = [] := List.length_eq_zero_iff.1 h0
    subst hx
    refine .inl ⟨rfl, ?_⟩
    rcases Joins.ownsRow_forms h with ⟨rfl, _⟩ | ⟨g, cap, rfl⟩
    · exact ⟨_, _, rfl⟩
    · exact ⟨_, _, rfl⟩
  · obtain ⟨g, cap, rfl, hc, hlt, hcells⟩ := own_strs h h0
    refine .inr ⟨by intro e; rw [List.map_eq_nil_iff] at e; subst e; simp at h0, g, 0, cap, by rw [List.length_map], hlt, fun i x hx => ?_⟩
    rw [List.getElem?_map, Option.map_eq_some_iff] at hx
    obtain ⟨y, hy, rfl⟩ := hx
    rw [hcells i y hy, ba_mk]
/-- strings.Split at one byte. -/
theorem split_is1 (s : ByteArray) (c : UInt8) (L : List (List UInt8)) (hL : partsL c s.data.toList = L) (n : Nat) (hn : L.length = n) (w : World) (hs : s.size ≤ 2000000) (hg : Gl w) :
    Calls Tryz.prog 34 #[.string s, .string ⟨#[c]⟩] w fun e w' => e = .returned (.slice (some ⟨w.heap.size, 0, none⟩) n n) ∧ StrsA w' (.slice (some ⟨w.heap.size, 0, none⟩) n n) L ∧ Ow w w' := by
  subst hn hL
  obtain ⟨m, hm⟩ := hg.max
  have hd : (Lib.splitB ⟨#[c]⟩ 0 (Lib.countB s ⟨#[c]⟩) s).map (·.data.toList) = partsL c s.data.toList := by
    rw [Lib.splitB_data]
    exact Wd.split_parts c s.data.toList
  have hl := Lib.splitB_all ⟨#[c]⟩ (by show 1 ≤ 1; omega) 0 _ s rfl
  have hl2 : Lib.countB s ⟨#[c]⟩ + 1 = (partsL c s.data.toList).length := by rw [← hd, List.length_map, hl]
  refine (Tryz.strings_Split s ⟨#[c]⟩ m w (by omega) hm (by show 1 ≤ 1; omega)).mono fun e w' ⟨h1, h2⟩ => ⟨by rw [h1, hl2], ?_, by rw [h2]; exact (Ow.refl _).alloc _⟩
  subst h2
  refine .inr ⟨Wd.parts_ne _ _, w.heap.size, 0, _, rfl, by simp, fun i x hx => ?_⟩
  rw [cell_of_row _ _ (0 + i) _ _ _ (heap_alloc_new w _), Nat.zero_add]
  rw [← hd, List.getElem?_map, Option.map_eq_some_iff] at hx
  obtain ⟨y, hy, rfl⟩ := hx
  rw [ba_mk]
  simp [hy]
end Go.Proofs.YtabopillicdjaaaGreatDoor

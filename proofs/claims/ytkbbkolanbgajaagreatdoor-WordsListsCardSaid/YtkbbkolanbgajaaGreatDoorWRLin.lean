/- The reference of chapter 1: Lines. -/
import Derived.Test.YtkbbkolanbgajaaGreatDoorWLin
namespace Go.Proofs.YtkbbkolanbgajaaGreatDoor
open Go.RowKit
open Wd (partsL linesE linesS)

/-- What stands behind i bytes: the lines cut off, and where the next one begins. -/
structure LI (l : List UInt8) (i a : Nat) (xs : List ByteArray) : Prop where
  le : a ≤ i
  cut : xs.map (·.data.toList) ++ partsL 10 (l.drop a) = partsL 10 l
  no : ∀ j, a ≤ j → j < i → l[j]? ≠ some 10
  len : xs.length ≤ a
theorem LI.start (l : List UInt8) : LI l 0 0 [] := ⟨Nat.le_refl _, rfl, fun _ _ h => absurd h (Nat.not_lt_zero _), Nat.le_refl _⟩
theorem LI.skip {l : List UInt8} {i a : Nat} {xs : List ByteArray} (h : LI l i a xs) {c : UInt8} (hc : l[i]? = some c) (h10 : c ≠ 10) : LI l (i + 1) a xs :=
  ⟨by have := h.le; omega, h.cut, fun j h1 h2 => by
    by_cases hj : j = i
    · subst hj; rw [hc]; simpa using h10
    · exact h.no j h1 (by omega), h.len⟩
theorem LI.hit {l : List UInt8} {i a : Nat} {xs : List ByteArray} (h : LI l i a xs) (hc : l[i]? = some 10) {t : ByteArray} (ht : t.data.toList = (l.drop a).take (i - a)) : LI l (i + 1) (i + 1) (xs ++ [t]) := by
  refine ⟨Nat.le_refl _, ?_, fun j h1 h2 => by omega, by have := h.len; have := h.le; simp; omega⟩
  have h1 := h.cut
  rw [Wd.parts_step h.le hc h.no, ← ht] at h1
  rw [← h1]
  simp
theorem LI.done {l : List UInt8} {i a : Nat} {xs : List ByteArray} (h : LI l i a xs) (hi : i = l.length) (hl : l.getLast? = some 10) : xs.map (·.data.toList) = partsL 10 l.dropLast := by
  obtain ⟨m, rfl⟩ := List.getLast?_eq_some_iff.1 hl
  have ha : a = (m ++ [10]).length := by
    have h1 := h.le
    simp only [List.length_append, List.length_singleton] at hi ⊢
    rcases Nat.lt_or_ge a i with h2 | h2
    · exact absurd (by simp) (h.no m.length (by omega) (by omega))
    · omega
  have h1 := h.cut
  rw [ha, List.drop_length, Wd.parts_end] at h1
  rw [List.dropLast_concat]
  exact List.append_inj_left' h1 rfl
theorem ext_mid (s : ByteArray) (a k : Nat) : (s.extract a k).data.toList = (s.data.toList.drop a).take (k - a) := by
  simp [List.extract_eq_take_drop]
theorem last_at (s : ByteArray) (h : 0 < s.size) : s.data.toList.getLast? = some (s[s.size - 1]'(by omega)) := by
  rw [List.getLast?_eq_getElem?, ba_len, ba_at s (s.size - 1) (by omega)]

end Go.Proofs.YtkbbkolanbgajaaGreatDoor

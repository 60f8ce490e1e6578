/- The reference of chapter 1: Lines. The reference of chapter 1: less, parts, next. The reference of chapter 1: next. -/
import Derived.Test.YtabopillicdjaaaGreatDoorQ4
import Derived.Test.YtabopillicdjaaaGreatDoorWParW
namespace Go.Proofs.YtabopillicdjaaaGreatDoor
open Go.RowKit
open Wd (partsL linesE linesS)

/-- What stands behind i bytes: the lines cut off, and where the next one begins. -/
structure LI (l : List UInt8) (i a : Nat) (xs : List ByteArray) : Prop where
  le : a ≤ i
  cut : xs.map (·.data.toList) ++ partsL 10 (l.drop a) = partsL 10 l
  no : ∀ j, a ≤ j → j < i → l[j]? ≠ some 10
  len : xs.length ≤ a
theorem LI.start (l : List UInt8) : LI l 0 0 [] := ⟨Nat.le_refl _, rfl, fun _ _ h => absurd h (Nat.not_lt_zero _), Nat.le_refl _⟩
theorem LI.skip {l : List UInt8} {i a : Nat} {xs : List ByteArray} (h : LI l i a xs) {c : UInt8} (hc : l[i]? = some c) (h10 : c ≠ 10) : LI l (i + 1) a xs :=
  ⟨by have := h.le; omega, h.cut, fun j h1 h2 => by
    by_cases hj : j = i
    · subst hj; rw [hc]; simpa using h10
    · exact h.no j h1 (by omega), h.len⟩
theorem LI.hit {l : List UInt8} {i a : Nat} {xs : List ByteArray} (h : LI l i a xs) (hc : l[i]? = some 10) {t : ByteArray} (ht : t.data.toList = (l.drop a).take (i - a)) : LI l (i + 1) (i + 1) (xs ++ [t]) := by
  refine ⟨Nat.le_refl _, ?_, fun j h1 h2 => by omega, by have := h.len; have := h.le; simp; omega⟩
  have h1 := h.cut
  rw [Wd.parts_step h.le hc h.no, ← ht] at h1
  rw [← h1]
  simp
theorem LI.done {l : List UInt8} {i a : Nat} {xs : List ByteArray} (h : LI l i a xs) (hi : i = l.length) (hl : l.getLast? = some 10) : xs.map (·.data.toList) = partsL 10 l.dropLast := by
  obtain ⟨m, rfl⟩ := List.getLast?_eq_some_iff.1 hl
  have ha : a = (m ++ [10]).length := by
    have h1 := h.le
    simp only [List.length_append, List.length_singleton] at hi ⊢
    rcases Nat.lt_or_ge a i with h2 | h2
    · exact absurd (by simp) (h.no m.length (by omega) (by omega))
    · omega
  have h1 := h.cut
  rw [ha, List.drop_length, Wd.parts_end] at h1
  rw [List.dropLast_concat]
  exact List.append_inj_left' h1 rfl
theorem ext_mid (s : ByteArray) (a k : Nat) : (s.extract a k).data.toList = (s.data.toList.drop a).take (k - a) := by
  simp [List.extract_eq_take_drop]
theorem last_at (s : ByteArray) (h : 0 < s.size) : s.data.toList.getLast? = some (s[s.size - 1]'(by omega)) := by
  rw [List.getLast?_eq_getElem?, ba_len, ba_at s (s.size - 1) (by omega)]

end Go.Proofs.YtabopillicdjaaaGreatDoor
namespace Go.Proofs.YtabopillicdjaaaGreatDoor
open Go.RowKit
open Wd (lessB natB valN partsL)

/-- What stands behind i bytes of parts' loop. -/
structure PI (c : UInt8) (l : List UInt8) (i a : Nat) (xs : List ByteArray) : Prop where
  le : a ≤ i
  cut : xs.map (·.data.toList) ++ partsL c (l.drop a) = partsL c l
  no : ∀ j, a ≤ j → j < i → l[j]? ≠ some c
  len : xs.length ≤ a
theorem PI.skip {c : UInt8} {l : List UInt8} {i a : Nat} {xs : List ByteArray} (h : PI c l i a xs) {d : UInt8} (hc : l[i]? = some d) (hd : d ≠ c) : PI c l (i + 1) a xs :=
  ⟨by have := h.le; omega, h.cut, fun j h1 h2 => by
    by_cases hj : j = i
    · subst hj; rw [hc]; simpa using hd
    · exact h.no j h1 (by omega), h.len⟩
theorem PI.hit {c : UInt8} {l : List UInt8} {i a : Nat} {xs : List ByteArray} (h : PI c l i a xs) (hc : l[i]? = some c) {t : ByteArray} (ht : t.data.toList = (l.drop a).take (i - a)) : PI c l (i + 1) (i + 1) (xs ++ [t]) := by
  refine ⟨Nat.le_refl _, ?_, fun j h1 h2 => by omega, by have := h.len; have := h.le; simp; omega⟩
  have h1 := h.cut
  rw [Wd.parts_step h.le hc h.no, ← ht] at h1
  rw [← h1]
  simp
theorem PI.done {c : UInt8} {l : List UInt8} {i a : Nat} {xs : List ByteArray} (h : PI c l i a xs) (hi : l.length ≤ i) {t : ByteArray} (ht : t.data.toList = l.drop a) : (xs ++ [t]).map (·.data.toList) = partsL c l := by
  have h1 := h.cut
  rw [Wd.parts_last (fun j h2 h3 => h.no j h2 (by omega)), ← ht] at h1
  rw [← h1]; simp
theorem ext_from (s : ByteArray) (a : Nat) : (s.extract a s.size).data.toList = s.data.toList.drop a := by
  rw [ext_mid, List.take_of_length_le]
  rw [List.length_drop, ba_len]; exact Nat.le_refl _
/-- A slice of strings of the call's own. -/
def PtPost (L : List (List UInt8)) (n : Nat) (w : World) (e : Ending) (w' : World) : Prop :=
  ∃ g cap, e = .returned (.slice (some ⟨g, 0, none⟩) n cap) ∧ g < w'.heap.size ∧ (∀ (i : Nat) x, L[i]? = some x → w'.cell? ⟨g, i, none⟩ = some (.string ⟨x.toArray⟩)) ∧ Ow w w'
end Go.Proofs.YtabopillicdjaaaGreatDoor
namespace Go.Proofs.YtabopillicdjaaaGreatDoor
open Go.RowKit
open Wd (natB valN)

theorem rep_at {n j : Nat} {a : List UInt8} {c : UInt8} (h : a = List.replicate n c) (hj : j < n) : a[j]? = some c := by
  subst h; rw [List.getElem?_replicate, if_pos hj]
theorem tail_at {p : List UInt8} {c d : UInt8} {m t : Nat} {a : List UInt8} (h : a = p ++ c :: List.replicate m d) (ht : 0 < t) (htm : t ≤ m) : a[p.length + t]? = some d := by
  subst h
  rw [List.getElem?_append_right (by omega)]
  obtain ⟨q, hq⟩ : ∃ q, p.length + t - p.length = q + 1 := ⟨t - 1, by omega⟩
  rw [hq, List.getElem?_cons_succ, List.getElem?_replicate, if_pos (by omega)]
theorem byte_at {s : ByteArray} {j : Nat} {c : UInt8} {n : Nat} (h : s.data.toList[j]? = some c) (hc : c.toNat = n) (hj : j < s.size) : s[j].toNat = n := by
  rw [ba_at s j hj] at h
  simp only [Option.some.injEq] at h
  rw [h, hc]
theorem rep_app (z : ByteArray) (k : Nat) (h : z.data.toList = List.replicate k 48) : (z ++ ⟨#[48]⟩).data.toList = List.replicate (k + 1) 48 := by
  rw [ba_app, h, List.replicate_succ']
theorem sz_one (z : ByteArray) (k : Nat) (h : z.size ≤ k) (c : UInt8) : (z ++ ⟨#[c]⟩).size ≤ k + 1 := by
  have e1 : (⟨#[c]⟩ : ByteArray).size = 1 := rfl
  rw [ByteArray.size_append, e1]; omega
def NxPost (s : ByteArray) (w : World) (e : Ending) (w' : World) : Prop := ∃ u : ByteArray, e = .returned (.string u) ∧ natB u.data.toList = true ∧ valN u.data.toList = valN s.data.toList + 1 ∧ u.size ≤ s.size + 1 ∧ Ow w w'
end Go.Proofs.YtabopillicdjaaaGreatDoor

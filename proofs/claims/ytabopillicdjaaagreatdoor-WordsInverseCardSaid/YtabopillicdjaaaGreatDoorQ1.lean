/- The reference of chapter 1: plain, hex, escaped. The reference of chapter 1: quoted, Unquote. -/
import Derived.Test.YtabopillicdjaaaGreatDoorWSame
namespace Go.Proofs.YtabopillicdjaaaGreatDoor
open Go.RowKit
open Wd (plainB letB escB hexB)

def EPost (c : UInt8) (w : World) (e : Ending) (w' : World) : Prop := e = .returned (.string ⟨(escB c).toArray⟩) ∧ Ow w w'
end Go.Proofs.YtabopillicdjaaaGreatDoor
namespace Go.Proofs.YtabopillicdjaaaGreatDoor
open Go.RowKit
open Wd (plainB letB escB hexB decB uq unq unqS unqN)

/-- Does the form of a byte stand at a place? -/
def formAt (l : List UInt8) (k : Nat) (c : UInt8) : Bool := (escB c).isPrefixOf (l.drop k)
theorem form_dec {l : List UInt8} {k : Nat} {c : UInt8} (h : formAt l k c = true) : decB (l.drop k) = some (c, (escB c).length) := by
  obtain ⟨t, ht⟩ := List.isPrefixOf_iff_prefix.1 h
  rw [← ht]; exact Wd.dec_esc c t
theorem dec_form {l : List UInt8} {k : Nat} {c : UInt8} {n : Nat} (h : decB (l.drop k) = some (c, n)) : formAt l k c = true := by
  obtain ⟨t, ht, _⟩ := Wd.esc_dec _ _ _ h
  exact List.isPrefixOf_iff_prefix.2 ⟨t, ht.symm⟩
theorem no_form {l : List UInt8} {k : Nat} (h : ∀ c : UInt8, formAt l k c = false) : decB (l.drop k) = none := by
  cases hd : decB (l.drop k) with
  | none => rfl
  | some p =>
    obtain ⟨c, n⟩ := p
    have := dec_form hd
    rw [h c] at this; cases this
theorem form_len {l : List UInt8} {k : Nat} {c : UInt8} (h : formAt l k c = true) : k + (escB c).length ≤ l.length := by
  have := (List.isPrefixOf_iff_prefix.1 h).length_le
  rw [List.length_drop] at this
  have := Wd.esc_len_pos c
  omega
theorem form_slice {s : ByteArray} {k : Nat} {c : UInt8} : formAt s.data.toList k c = true ↔ (k + (escB c).length ≤ s.size ∧ (s.extract k (k + (escB c).length)).data.toList = escB c) := by
  constructor
  · intro h
    refine ⟨by have := form_len h; rwa [ba_len] at this, ?_⟩
    rw [Lib.extract_data, show k + (escB c).length - k = (escB c).length by omega]
    exact (List.prefix_iff_eq_take.1 (List.isPrefixOf_iff_prefix.1 h)).symm
  · rintro ⟨_, h2⟩
    rw [Lib.extract_data, show k + (escB c).length - k = (escB c).length by omega] at h2
    exact List.isPrefixOf_iff_prefix.2 (List.prefix_iff_eq_take.2 h2.symm)
theorem esc_max (c : UInt8) : (escB c).length ≤ 4 := by unfold escB; split; simp; split <;> simp
def QPost (s : ByteArray) (w : World) (e : Ending) (w' : World) : Prop := e = .returned (.tuple #[.string ⟨(unqS s.data.toList).toArray⟩, .int .i64 (unqN s.data.toList : Nat)]) ∧ Ow w w'
end Go.Proofs.YtabopillicdjaaaGreatDoor

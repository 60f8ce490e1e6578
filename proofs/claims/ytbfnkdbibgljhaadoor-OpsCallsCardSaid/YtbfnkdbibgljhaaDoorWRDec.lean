/- The reference of chapter 1: decimal (printed by gen/wrdec.py). -/
import Derived.Test.YtbfnkdbibgljhaaDoorWRNam
namespace Go.Proofs.YtbfnkdbibgljhaaDoor
open Go.RowKit
open Wd (decimalB unsign)

/-- A decimal form without a sign. -/
def numB (l : List UInt8) : Bool := !l.isEmpty && l.all Wd.digB && (l.head? != some 48 || l.length == 1)
theorem dig_at (c : UInt8) : Wd.digB c = digB c.toNat := by
  have := Wd.all256 (p := fun c => Wd.digB c == digB c.toNat) (by decide +kernel) c
  simpa using this
theorem num_app {l : List UInt8} (h : l.length = 1) : numB l = l.all Wd.digB := by
  match l, h with
  | [a], _ => simp [numB]
theorem num_more {l : List UInt8} (h : 1 < l.length) (h2 : l.head? ≠ some 48) : numB l = l.all Wd.digB := by
  have e : (l.head? != some 48) = true := by rw [bne_iff_ne]; exact h2
  match l, h, e with
  | a :: b :: r, _, e => rw [numB, e]; simp
theorem num_zero {l : List UInt8} (h : 1 < l.length) (h2 : l.head? = some 48) : numB l = false := by
  match l, h, h2 with
  | a :: b :: r, _, h2 => simp at h2; simp [numB, h2]
theorem dec_strip {l : List UInt8} {r : List UInt8} (h : l = 45 :: r) (h0 : r.head? ≠ some 48) : decimalB l = numB r := by
  subst h
  simp only [decimalB, Wd.unsign_minus, numB]
  have e : (r.head? != some 48) = true := by rw [bne_iff_ne]; exact h0
  rw [e]; simp
theorem dec_min0 {l r : List UInt8} (h : l = 45 :: 48 :: r) : decimalB l = numB l := by
  subst h
  have e : numB (45 :: 48 :: r) = false := by simp [numB, Wd.digB]
  rw [e]
  simp [decimalB, Wd.unsign_minus]
theorem dec_one {l : List UInt8} (h : l.length = 1) : decimalB l = numB l := by
  match l, h with
  | [a], _ =>
    rw [num_app rfl]
    have := Wd.all256 (p := fun a => decimalB [a] == [a].all Wd.digB) (by decide +kernel) a
    simpa using this
theorem dec_more {l : List UInt8} (h : l.head? ≠ some 45) (h1 : 1 < l.length) : decimalB l = numB l := by
  simp only [decimalB, numB, Wd.unsign_other h]
  match l, h1 with
  | a :: b :: r, _ => simp

def RdPost (s : ByteArray) (w : World) (e : Ending) (w' : World) : Prop := e = .returned (.bool (decimalB s.data.toList)) ∧ w = w'
end Go.Proofs.YtbfnkdbibgljhaaDoor

/- The reference of chapter 1: lower, digit, Name. The reference of chapter 1: decimal (printed by gen/wrdec.py). The reference of chapter 1: Int. -/
import Derived.Test.YtaojogaakhidhaaDoorWBare
import Derived.Outline
namespace Go.Proofs.YtaojogaakhidhaaDoor
open Go.RowKit

def lowB (n : Nat) : Bool := decide (97 ≤ n) && decide (n ≤ 122)
def digB (n : Nat) : Bool := decide (48 ≤ n) && decide (n ≤ 57)
theorem nameC_at (c : UInt8) : nameC c = (lowB c.toNat || digB c.toNat || c.toNat == 45) := by
  have := Wd.all256 (p := fun c => nameC c == (lowB c.toNat || digB c.toNat || c.toNat == 45)) (by decide +kernel) c
  simpa using this
end Go.Proofs.YtaojogaakhidhaaDoor
namespace Go.Proofs.YtaojogaakhidhaaDoor
open Go.RowKit
open Wd (decimalB unsign)

/-- A decimal form without a sign. -/
def numB (l : List UInt8) : Bool := !l.isEmpty && l.all Wd.digB && (l.head? != some 48 || l.length == 1)
theorem dig_at (c : UInt8) : Wd.digB c = digB c.toNat := by
  have := Wd.all256 (p := fun c => Wd.digB c == digB c.toNat) (by decide +kernel) c
  simpa using this
theorem num_app {l : List UInt8} (h : l.length = 1) : numB l = l.all Wd.digB := by
  match l, h with
  | [a], _ => simp [numB]
theorem num_more {l : List UInt8} (h : 1 < l.length) (h2 : l.head? ≠ some 48) : numB l = l.all Wd.digB := by
  have e : (l.head? != some 48) = true := by rw [bne_iff_ne]; exact h2
  match l, h, e with
  | a :: b :: r, _, e => rw [numB, e]; simp
theorem num_zero {l : List UInt8} (h : 1 < l.length) (h2 : l.head? = some 48) : numB l = false := by
  match l, h, h2 with
  | a :: b :: r, _, h2 => simp at h2; simp [numB, h2]
theorem dec_strip {l : List UInt8} {r : List UInt8} (h : l = 45 :: r) (h0 : r.head? ≠ some 48) : decimalB l = numB r := by
  subst h
  simp only [decimalB, Wd.unsign_minus, numB]
  have e : (r.head? != some 48) = true := by rw [bne_iff_ne]; exact h0
  rw [e]; simp
theorem dec_min0 {l r : List UInt8} (h : l = 45 :: 48 :: r) : decimalB l = numB l := by
  subst h
  have e : numB (45 :: 48 :: r) = false := by simp [numB, Wd.digB]
  rw [e]
  simp [decimalB, Wd.unsign_minus]
theorem dec_one {l : List UInt8} (h : l.length = 1) : decimalB l = numB l := by
  match l, h with
  | [a], _ =>
    rw [num_app rfl]
    have := Wd.all256 (p := fun a => decimalB [a] == [a].all Wd.digB) (by decide +kernel) a
    simpa using this
theorem dec_more {l : List UInt8} (h : l.head? ≠ some 45) (h1 : 1 < l.length) : decimalB l = numB l := by
  simp only [decimalB, numB, Wd.unsign_other h]
  match l, h1 with
  | a :: b :: r, _ => simp

def RdPost (s : ByteArray) (w : World) (e : Ending) (w' : World) : Prop := e = .returned (.bool (decimalB s.data.toList)) ∧ w = w'
end Go.Proofs.YtaojogaakhidhaaDoor
namespace Go.Proofs.YtaojogaakhidhaaDoor
open Go.RowKit
open Wd (decimalB decVal unsign natFrom intV intE)

/-- What is read of a decimal form's first k bytes. -/
def acc (l : List UInt8) (k : Nat) : Nat := natFrom 0 (unsign (l.take k))
theorem acc_zero (l : List UInt8) : acc l 0 = 0 := by simp [acc, unsign, natFrom]
theorem unsign_snoc {l : List UInt8} {c : UInt8} (h : l ≠ [] ∨ c ≠ 45) : unsign (l ++ [c]) = unsign l ++ [c] := by
  match l, h with
  | [], h =>
    have hc : c ≠ 45 := h.resolve_left (fun h => h rfl)
    simp [unsign, hc]
  | a :: l, _ =>
    unfold unsign
    by_cases ha : a = 45
    · subst ha; simp
    · simp [ha]
theorem acc_step {l : List UInt8} {k : Nat} {c : UInt8} (h : l[k]? = some c) (hk : k ≠ 0 ∨ c ≠ 45) : acc l (k + 1) = acc l k * 10 + (c.toNat - 48) := by
  have hl : k < l.length := (List.getElem?_eq_some_iff.1 h).1
  unfold acc
  rw [List.take_add_one, h, Option.toList_some, unsign_snoc, Wd.natFrom_snoc]
  rcases hk with hk | hk
  · left
    intro e
    have := congrArg List.length e
    rw [List.length_take, List.length_nil] at this
    omega
  · exact .inr hk
theorem acc_minus {l : List UInt8} (h : l[0]? = some 45) : acc l 1 = 0 := by
  match l, h with
  | a :: l, h => simp at h; subst h; simp [acc, unsign, natFrom]
theorem acc_all {l : List UInt8} {k : Nat} (h : l.length ≤ k) : acc l k = natFrom 0 (unsign l) := by rw [acc, List.take_of_length_le h]
theorem dec_at {l : List UInt8} (h : decimalB l = true) {k : Nat} {c : UInt8} (hk : l[k]? = some c) : (c.toNat = 45 ∧ k = 0) ∨ (48 ≤ c.toNat ∧ c.toNat ≤ 57) := by
  obtain ⟨_, h2, _⟩ := Wd.decimal_parts h
  match l, k, h2, hk with
  | a :: r, k, h2, hk =>
    by_cases ha : a = 45
    · subst ha
      rw [Wd.unsign_minus] at h2
      match k, hk with
      | 0, hk => simp at hk; subst hk; exact .inl ⟨rfl, rfl⟩
      | j + 1, hk => exact .inr ((Wd.digB_iff c).1 (List.all_eq_true.1 h2 c (List.mem_of_getElem? (by simpa using hk))))
    · rw [Wd.unsign_other (by simpa using ha)] at h2
      exact .inr ((Wd.digB_iff c).1 (List.all_eq_true.1 h2 c (List.mem_of_getElem? hk)))
theorem acc_le (l : List UInt8) (k : Nat) : acc l k ≤ natFrom 0 (unsign l) := by
  unfold acc
  match l, k with
  | [], _ => simp
  | a :: r, 0 => simp [unsign, natFrom]
  | a :: r, j + 1 =>
    rw [List.take_succ_cons]
    by_cases ha : a = 45
    · subst ha
      rw [Wd.unsign_minus, Wd.unsign_minus]
      exact Wd.natFrom_take_le 0 r j
    · rw [Wd.unsign_other (by simpa using ha), Wd.unsign_other (by simpa using ha), ← List.take_succ_cons]
      exact Wd.natFrom_take_le 0 (a :: r) (j + 1)
theorem decVal_minus {l : List UInt8} (h : l.head? = some 45) : decVal l = -(natFrom 0 (unsign l) : Int) := by unfold decVal; rw [if_pos h]
theorem decVal_plus {l : List UInt8} (h : l.head? ≠ some 45) : decVal l = (natFrom 0 (unsign l) : Int) := by unfold decVal; rw [if_neg h]
theorem int_out {l : List UInt8} {lo hi : Int} (h : decimalB l = true) (ho : ¬ (lo ≤ decVal l ∧ decVal l ≤ hi)) : intV l lo hi = 0 ∧ intE l lo hi = 7 := by
  refine ⟨?_, ?_⟩
  · unfold intV; rw [if_neg]; rintro ⟨_, h⟩; exact ho h
  · unfold intE; rw [if_pos h, if_neg ho]
theorem int_in {l : List UInt8} {lo hi : Int} (h : decimalB l = true) (ho : lo ≤ decVal l ∧ decVal l ≤ hi) : intV l lo hi = decVal l ∧ intE l lo hi = 0 := by
  refine ⟨?_, ?_⟩
  · unfold intV; rw [if_pos ⟨h, ho⟩]
  · unfold intE; rw [if_pos h, if_pos ho]

end Go.Proofs.YtaojogaakhidhaaDoor

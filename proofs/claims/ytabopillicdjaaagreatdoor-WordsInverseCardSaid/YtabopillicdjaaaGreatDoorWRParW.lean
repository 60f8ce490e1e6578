/- The reference of chapter 1: ParseList, walked (printed by gen/wrparw.py). -/
import Derived.Test.YtabopillicdjaaaGreatDoorQ5
import Derived.Deep.RegionHeld3
namespace Go.Proofs.YtabopillicdjaaaGreatDoor
open Go.RowKit
open Wd (natB valN decimalB lessB runOf runsF expL expP cntP lastV plE plS partsL farTo Pr intV intE decVal)

theorem rdecimal_q (s : ByteArray) (b : Bool) (h : decimalB s.data.toList = b) (w : World) (hs : s.size ≤ 9000) :
    Calls Tryz.prog 79 #[.string s] w fun e w' => e = .returned (.bool b) ∧ w' = w := (rdecimal_same s b h w hs).mono fun _ _ ⟨h1, h2⟩ => ⟨h1, h2.symm⟩
theorem parts_no_mem (c : UInt8) : ∀ (l : List UInt8), ∀ p ∈ partsL c l, ∀ x ∈ p, x ≠ c
  | [], p, hp, x, hx => by simp [Wd.partsL] at hp; subst hp; cases hx
  | d :: r, p, hp, x, hx => by
    have ih := parts_no_mem c r
    rw [Wd.partsL] at hp
    by_cases h : d = c
    · rw [if_pos h] at hp
      rcases List.mem_cons.1 hp with rfl | hp
      · cases hx
      · exact ih p hp x hx
    · rw [if_neg h] at hp
      match hq : partsL c r, hp, ih with
      | [], _, _ => exact absurd hq (Wd.parts_ne c r)
      | q :: qs, hp, ih =>
        simp only at hp
        rcases List.mem_cons.1 hp with rfl | hp
        · rcases List.mem_cons.1 hx with rfl | hx
          · exact h
          · exact ih q (by simp) x hx
        · exact ih p (by simp [hp]) x hx
theorem run_p1 {x y : List UInt8} (h : partsL 45 x = [y]) : runOf x = if decimalB y = true then some (y, y) else none := by
  unfold Wd.runOf
  rw [h]
  simp only
  rw [Wd.natB_dec (parts_no_mem 45 x y (by rw [h]; simp))]
theorem run_p2 {x y z : List UInt8} (h : partsL 45 x = [y, z]) : runOf x = if decimalB y = true ∧ decimalB z = true ∧ lessB y z = true then some (y, z) else none := by
  unfold Wd.runOf
  rw [h]
  simp only
  have h1 := Wd.natB_dec (parts_no_mem 45 x y (by rw [h]; simp))
  have h2 := Wd.natB_dec (parts_no_mem 45 x z (by rw [h]; simp))
  rw [← h1, ← h2]
  by_cases hy : natB y = true
  · by_cases hz : natB z = true
    · have := Wd.less_val hy hz
      by_cases hl : valN y < valN z
      · rw [if_pos ⟨hy, hz, hl⟩, if_pos ⟨hy, hz, by rw [this]; exact decide_eq_true hl⟩]
      · rw [if_neg (fun e => hl e.2.2), if_neg (fun e => by have h := e.2.2; rw [this, decide_eq_true_eq] at h; exact hl h)]
    · rw [if_neg (fun e => hz e.2.1), if_neg (fun e => hz e.2.1)]
  · rw [if_neg (fun e => hy e.1), if_neg (fun e => hy e.1)]
theorem run_p3 {x : List UInt8} (h : 2 < (partsL 45 x).length) : runOf x = none := by
  unfold Wd.runOf
  match partsL 45 x, h with
  | _ :: _ :: _ :: _, _ => rfl
def firstsC (rs : List Pr) : List Value := rs.map fun p => .string ⟨p.1.toArray⟩
def lastsC (rs : List Pr) : List Value := rs.map fun p => .string ⟨p.2.toArray⟩
theorem firstsC_snoc (rs : List Pr) (p : Pr) : firstsC (rs ++ [p]) = firstsC rs ++ [.string ⟨p.1.toArray⟩] := by simp [firstsC]
theorem lastsC_snoc (rs : List Pr) (p : Pr) : lastsC (rs ++ [p]) = lastsC rs ++ [.string ⟨p.2.toArray⟩] := by simp [lastsC]
/-- Two rows do not lie in one block. -/
def Dj (f l : Value) : Prop := ∀ b, f.ownBlock = some b → l.ownBlock ≠ some b
theorem dj_ne {f l : Value} (h : Dj f l) : l.ownBlock = none ∨ l.ownBlock ≠ f.ownBlock := by
  cases hf : f.ownBlock with
  | none =>
    cases hl : l.ownBlock with
    | none => exact .inl rfl
    | some b => exact .inr (by simp)
  | some b => exact .inr (h b hf)
theorem dj_first {f l : Value} {g H : Nat} (h : Dj f l) (hl : ∀ b, l.ownBlock = some b → b < H) (hat : f.ownBlock = some g ∨ g = H) : l.ownBlock ≠ some g := by
  rcases hat with h1 | h1
  · exact h g h1
  · intro e
    have := hl g e
    omega
theorem dj_second {l : Value} {g g' H : Nat} (h : l.ownBlock ≠ some g) (hat : l.ownBlock = some g' ∨ g' = H) (hlt : g < H) : g ≠ g' := by
  rintro rfl
  rcases hat with h1 | h1
  · exact h h1
  · omega
/-- Between the operations of a region: what lay in w lies as it lay. -/
structure Hd (w : World) (g : Nat) (y : ByteArray) (w' : World) : Prop where
  ow : Ow w w'
  lt : g < w.heap.size
  c : w.cell? ⟨g, 0, none⟩ = some (.string y)
theorem Hd.all {w : World} {g : Nat} {y : ByteArray} {w' : World} (h : Hd w g y w') : Hd w g y w' ∧ w'.cell? ⟨g, 0, none⟩ = some (.string y) := ⟨h, (h.ow.cell (p := ⟨g, 0, none⟩) h.lt).trans h.c⟩
theorem Hd.drew {w : World} {g : Nat} {y : ByteArray} {w' : World} (h : Hd w g y w') : Hd w g y w'.drew := ⟨h.ow.drew, h.lt, h.c⟩
theorem Hd.after {w : World} {g : Nat} {y : ByteArray} {W w1 : World} {q : Prop} (hb : Ow W w1) (h : Hd w g y W ∧ q) : Hd w g y w1 := ⟨h.1.ow.then hb, h.1.lt, h.1.c⟩
theorem Hd.fin {w : World} {g : Nat} {y : ByteArray} {W : World} {q : Prop} (h : Hd w g y W ∧ q) : Ow w W := h.1.ow
end Go.Proofs.YtabopillicdjaaaGreatDoor

/- The plain laws of chapter 28: operations and their lines. No program in sight. -/
import Derived.Test.YtaojogaakhidhaaDoorWJoin
import Derived.Test.YtaojogaakhidhaaDoorWNum
namespace Go.Proofs.YtaojogaakhidhaaDoor.Sc
open Wd (digB natFrom decimalB decVal intV intE spl splitS splitE joinT fieldT okF bareB bareC plainB longF)

/-- An operation. -/
structure OC where
  k : Int
  a : Int
  b : Int
  f : Int
  p : Int
  r : Int
  v : Int
/-- The fields of a kind: 1 A, 2 B, 3 Field, 4 Ptrs, 5 Raws, 6 Value. -/
def kf (k : Int) : List Nat :=
  if k = 1 then [1, 4, 5] else if k = 2 then [1, 2, 3] else if k = 3 then [1, 3, 2] else if k = 4 then [1, 3] else if k = 5 then [1, 3, 6] else if k = 6 then [1, 2]
  else if k = 7 then [1] else if k = 8 then [1, 2] else if k = 9 then [1] else if k = 10 then [1] else []
def kw (k : Int) : List UInt8 :=
  if k = 1 then [97, 108, 108, 111, 99] else if k = 2 then [108, 111, 97, 100] else if k = 3 then [115, 116, 111, 114, 101] else if k = 4 then [114, 101, 97, 100] else if k = 5 then [119, 114, 105, 116, 101]
  else if k = 6 then [109, 111, 118, 101] else if k = 7 then [99, 108, 101, 97, 114] else if k = 8 then [115, 97, 109, 101] else if k = 9 then [110, 105, 108] else if k = 10 then [115, 105, 122, 101] else [99, 111, 108, 108, 101, 99, 116]
def num (c : OC) (i : Nat) : Int := if i = 1 then c.a else if i = 2 then c.b else if i = 3 then c.f else if i = 4 then c.p else if i = 5 then c.r else c.v
def setN (c : OC) (i : Nat) (x : Int) : OC := if i = 1 then { c with a := x } else if i = 2 then { c with b := x } else if i = 3 then { c with f := x } else if i = 4 then { c with p := x } else if i = 5 then { c with r := x } else { c with v := x }
def kindOk (c : OC) : Bool := decide (1 ≤ c.k ∧ c.k ≤ 11)
def bareOk (c : OC) : Bool := [1, 2, 3, 4, 5, 6].all fun i => (kf c.k).contains i || num c i == 0
def inR (x : Int) : Bool := decide (-1000000000 ≤ x ∧ x ≤ 1000000000)
def rangeOk (c : OC) : Bool := (kf c.k).all fun i => i == 6 || inR (num c i)
/-- What Check returns. -/
def chkE (c : OC) : Int := if kindOk c && bareOk c then (if rangeOk c then 0 else 7) else 2

/-! Hexadecimal digits. -/
def hexD (n : Nat) : UInt8 := if n < 10 then UInt8.ofNat (48 + n) else UInt8.ofNat (87 + n)
def hexL (u : Nat) : List UInt8 := if _h : u < 16 then [hexD u] else hexL (u / 16) ++ [hexD (u % 16)]
termination_by u
decreasing_by omega
def hexC (c : UInt8) : Bool := (48 ≤ c && c ≤ 57) || (97 ≤ c && c ≤ 102)
def hexV (c : UInt8) : Nat := if c ≤ 57 then c.toNat - 48 else c.toNat - 87
def hexFrom (a : Nat) (l : List UInt8) : Nat := l.foldl (fun a c => a * 16 + hexV c) a
/-- What unhex returns: the error, and the number. -/
def unhexE (l : List UInt8) : Int := if l.isEmpty || !l.all hexC || (decide (1 < l.length) && l.head? == some 48) then 6 else if 16 < l.length then 7 else 0
def unhexN (l : List UInt8) : Int := if unhexE l = 0 then (hexFrom 0 l : Int) else 0

theorem hexL_small {u : Nat} (h : u < 16) : hexL u = [hexD u] := by rw [hexL, dif_pos h]
theorem hexL_big {u : Nat} (h : ¬ u < 16) : hexL u = hexL (u / 16) ++ [hexD (u % 16)] := by rw [hexL, dif_neg h]
theorem hexFrom_snoc (a : Nat) (l : List UInt8) (c : UInt8) : hexFrom a (l ++ [c]) = hexFrom a l * 16 + hexV c := by simp [hexFrom, List.foldl_append]
theorem hexFrom_cons (a : Nat) (l : List UInt8) (c : UInt8) : hexFrom a (c :: l) = hexFrom (a * 16 + hexV c) l := by simp [hexFrom]
theorem hexFrom_app (a : Nat) (l m : List UInt8) : hexFrom a (l ++ m) = hexFrom (hexFrom a l) m := by simp [hexFrom, List.foldl_append]
theorem hexD_ok : ∀ n, n < 16 → hexC (hexD n) = true ∧ hexV (hexD n) = n ∧ (n ≠ 0 → hexD n ≠ 48) := by decide +kernel
theorem hexD_inv (c : UInt8) (h : hexC c = true) : hexV c < 16 ∧ hexD (hexV c) = c := by
  have := Wd.all256 (p := fun c => !hexC c || (decide (hexV c < 16) && hexD (hexV c) == c)) (by decide +kernel) c
  rw [h] at this
  simpa using this
theorem hexL_ne (u : Nat) : hexL u ≠ [] := by
  by_cases h : u < 16
  · rw [hexL_small h]; simp
  · rw [hexL_big h]; simp
theorem hexL_all (u : Nat) : (hexL u).all hexC = true := by
  induction u using Nat.strongRecOn with
  | _ u ih =>
    by_cases h : u < 16
    · rw [hexL_small h]; simp [(hexD_ok u h).1]
    · rw [hexL_big h, List.all_append, ih _ (by omega)]
      simp [(hexD_ok (u % 16) (by omega)).1]
theorem hexL_val (u : Nat) : hexFrom 0 (hexL u) = u := by
  induction u using Nat.strongRecOn with
  | _ u ih =>
    by_cases h : u < 16
    · rw [hexL_small h, hexFrom_cons, (hexD_ok u h).2.1]; simp [hexFrom]
    · rw [hexL_big h, hexFrom_snoc, ih _ (by omega), (hexD_ok (u % 16) (by omega)).2.1]; omega
theorem hexL_head (u : Nat) (h0 : u ≠ 0) : (hexL u).head? ≠ some 48 := by
  induction u using Nat.strongRecOn with
  | _ u ih =>
    by_cases h : u < 16
    · rw [hexL_small h]
      intro e
      simp only [List.head?_cons, Option.some.injEq] at e
      exact (hexD_ok u h).2.2 h0 e
    · rw [hexL_big h, Wd.head_app (hexL_ne _)]
      exact ih _ (by omega) (by omega)
theorem hexL_len : ∀ (k u : Nat), u < 16 ^ (k + 1) → (hexL u).length ≤ k + 1
  | 0, u, h => by rw [hexL_small (by simpa using h)]; simp
  | k + 1, u, h => by
    by_cases h9 : u < 16
    · rw [hexL_small h9]; simp
    · rw [hexL_big h9, List.length_append, List.length_singleton]
      have := hexL_len k (u / 16) (by rw [Nat.pow_succ] at h; omega)
      omega
theorem hexL_zero : hexL 0 = [48] := by rw [hexL_small (by omega)]; rfl
/-- unhex of hex. -/
theorem unhex_hex (u : Nat) (h : u < 18446744073709551616) : unhexE (hexL u) = 0 ∧ unhexN (hexL u) = u := by
  have e : unhexE (hexL u) = 0 := by
    have h1 : (hexL u).isEmpty = false := by rw [List.isEmpty_eq_false_iff]; exact hexL_ne u
    have h2 := hexL_all u
    have h3 := hexL_len 15 u (by simpa using h)
    have h4 : (decide (1 < (hexL u).length) && (hexL u).head? == some 48) = false := by
      by_cases h0 : u = 0
      · subst h0; rw [hexL_zero]; rfl
      · have := hexL_head u h0
        rw [show ((hexL u).head? == some 48) = false by rw [beq_eq_false_iff_ne]; exact this, Bool.and_false]
    unfold unhexE
    rw [h1, h2, h4, if_neg (by decide), if_neg (by omega)]
  exact ⟨e, by unfold unhexN; rw [if_pos e, hexL_val]⟩
theorem hex_of (l : List UInt8) (hn : l ≠ []) (ha : l.all hexC = true) (hz : l.head? ≠ some 48 ∨ l.length = 1) : hexL (hexFrom 0 l) = l ∧ (l.head? ≠ some 48 → hexFrom 0 l ≠ 0) := by
  generalize hk : l.length = k
  induction k generalizing l with
  | zero => cases l with
    | nil => exact absurd rfl hn
    | cons a l => cases hk
  | succ k ih =>
    obtain ⟨m, c, rfl⟩ : ∃ m c, l = m ++ [c] := ⟨l.dropLast, l.getLast hn, (List.dropLast_concat_getLast hn).symm⟩
    simp only [List.all_append, List.all_cons, List.all_nil, Bool.and_true, Bool.and_eq_true] at ha
    obtain ⟨hd, ec⟩ := hexD_inv c ha.2
    rw [hexFrom_snoc]
    cases m with
    | nil =>
      simp only [hexFrom, List.foldl_nil, List.nil_append, Nat.zero_mul, Nat.zero_add]
      rw [hexL_small hd, ec]
      refine ⟨rfl, fun h e => h ?_⟩
      rw [← ec, e]; rfl
    | cons a m =>
      have hz' : (a :: m).head? ≠ some 48 := by
        rcases hz with hz | hz
        · simpa using hz
        · simp at hz
      obtain ⟨i1, i2⟩ := ih (a :: m) (by simp) ha.1 (.inl hz') (by simpa using hk)
      have hp := i2 hz'
      generalize hexFrom 0 (a :: m) = v at i1 hp
      rw [hexL_big (by omega), show (v * 16 + hexV c) / 16 = v by omega, show (v * 16 + hexV c) % 16 = hexV c by omega, i1, ec]
      exact ⟨rfl, fun _ => by omega⟩
theorem hexFrom_lt : ∀ (l : List UInt8) (a k : Nat), l.all hexC = true → a < 16 ^ k → hexFrom a l < 16 ^ (k + l.length)
  | [], a, k, _, h => by simpa [hexFrom] using h
  | c :: l, a, k, ha, h => by
    simp only [List.all_cons, Bool.and_eq_true] at ha
    have hc := (hexD_inv c ha.1).1
    rw [hexFrom_cons, List.length_cons]
    have := hexFrom_lt l (a * 16 + hexV c) (k + 1) ha.2 (by rw [Nat.pow_succ]; omega)
    rwa [show k + (l.length + 1) = k + 1 + l.length by omega]
theorem unhex_parts {l : List UInt8} (h : unhexE l = 0) : l ≠ [] ∧ l.all hexC = true ∧ (l.head? ≠ some 48 ∨ l.length = 1) ∧ l.length ≤ 16 := by
  unfold unhexE at h
  split at h
  · cases h
  · rename_i hc
    split at h
    · cases h
    · rename_i hl
      simp only [Bool.or_eq_true, Bool.not_eq_true', Bool.and_eq_true, decide_eq_true_eq, beq_iff_eq, not_or, not_and, Bool.not_eq_true, Bool.not_eq_false, List.isEmpty_eq_false_iff] at hc
      obtain ⟨⟨h1, h2⟩, h3⟩ := hc
      refine ⟨h1, h2, ?_, by omega⟩
      by_cases h4 : 1 < l.length
      · exact .inl (h3 h4)
      · refine .inr ?_
        have := List.length_pos_iff.2 h1
        omega
/-- hex of unhex. -/
theorem hex_unhex {l : List UInt8} (h : unhexE l = 0) : hexL (unhexN l).toNat = l ∧ 0 ≤ unhexN l ∧ unhexN l < 18446744073709551616 := by
  obtain ⟨h1, h2, h3, h4⟩ := unhex_parts h
  have e : unhexN l = (hexFrom 0 l : Int) := by unfold unhexN; rw [if_pos h]
  rw [e]
  refine ⟨by rw [Int.toNat_natCast]; exact (hex_of l h1 h2 h3).1, by omega, ?_⟩
  have := hexFrom_lt l 0 0 h2 (by decide)
  rw [Nat.zero_add] at this
  have h5 : 16 ^ l.length ≤ 16 ^ 16 := Nat.pow_le_pow_right (by decide) h4
  have h6 : (16 ^ 16 : Nat) = 18446744073709551616 := by decide
  omega

/-! Lines of operations. -/
def fieldS (c : OC) (i : Nat) : List UInt8 := if i = 6 then hexL c.v.toNat else Lib.itoa (num c i)
def lineT (c : OC) : List UInt8 := kw c.k ++ (kf c.k).flatMap fun i => 32 :: fieldS c i
/-- What Print returns. -/
def printS (c : OC) : List UInt8 := if chkE c = 0 then lineT c else []
/-- A field read: the error, and the number. -/
def fldE (i : Nat) (x : List UInt8 × Bool) : Int := if x.2 then 6 else if i = 6 then unhexE x.1 else intE x.1 (-1000000000) 1000000000
def fldN (i : Nat) (x : List UInt8 × Bool) : Int := if i = 6 then unhexN x.1 else intV x.1 (-1000000000) 1000000000
def readE : List Nat → List (List UInt8 × Bool) → Int
  | i :: is, x :: xs => if fldE i x = 6 then 6 else if readE is xs = 6 then 6 else if fldE i x = 7 ∨ readE is xs = 7 then 7 else 0
  | _, _ => 0
def readC : OC → List Nat → List (List UInt8 × Bool) → OC
  | c, i :: is, x :: xs => readC (setN c i (fldN i x)) is xs
  | c, _, _ => c
def zeroC : OC := ⟨0, 0, 0, 0, 0, 0, 0⟩
def bareC0 (k : Int) : OC := ⟨k, 0, 0, 0, 0, 0, 0⟩
/-- Is this a line of a kind? -/
def fits (k : Int) (fs : List (List UInt8 × Bool)) : Bool := fs.length == (kf k).length + 1 && fs.head? == some (kw k, false)
def kindOf (fs : List (List UInt8 × Bool)) : Option Nat := (List.range 12).find? fun j => decide (1 ≤ j) && fits j fs
/-- What Parse returns: the error, and the operation. -/
def parE (line : List UInt8) : Int := if splitE line ≠ 0 then splitE line else match kindOf (splitS line) with
  | none => 6
  | some k => readE (kf k) (splitS line).tail
def parC (line : List UInt8) : OC := if parE line = 0 then (match kindOf (splitS line) with
  | none => zeroC
  | some k => readC (bareC0 k) (kf k) (splitS line).tail) else zeroC

end Go.Proofs.YtaojogaakhidhaaDoor.Sc

/- The plain laws of chapter 2: the text of a config. No program in sight. -/
import Derived.Test.YtabopillicdjaaaGreatDoorCfgPlain
import Derived.Test.YtabopillicdjaaaGreatDoorWJoin
import Derived.Test.YtabopillicdjaaaGreatDoorWNum
namespace Go.Proofs.YtabopillicdjaaaGreatDoor.Wd

def cfgWord (i : Nat) : List UInt8 := match i with
  | 0 => [99, 97, 114, 115] | 1 => [111, 102] | 2 => [110, 117, 114, 115, 101, 114, 121] | 3 => [114, 101, 103, 105, 115, 116, 101, 114, 115] | _ => [112, 111, 112, 117, 108, 97, 114]
def cfgLow (i : Nat) : Int := match i with | 0 => 7 | 1 => 8 | 2 => 4 | 3 => 1 | _ => 2
def cfgHigh (i : Nat) : Int := match i with | 0 => 24 | 1 => 64 | 2 => 64 | 3 => 8 | _ => 16
/-- The word of a number, and a decimal form. -/
def okW (L : List (List UInt8)) (i : Nat) : Bool := L.getD (2 * i) [] == cfgWord i && decimalB (L.getD (2 * i + 1) [])
def numW (L : List (List UInt8)) (i : Nat) : Int := decVal (L.getD (2 * i + 1) [])
def inW (L : List (List UInt8)) (i : Nat) : Bool := decide (cfgLow i ≤ numW L i ∧ numW L i ≤ cfgHigh i)
/-- Are the numbers before k as stated? -/
def okUpto (L : List (List UInt8)) : Nat → Bool | 0 => true | k + 1 => okUpto L k && okW L k
def inUpto (L : List (List UInt8)) : Nat → Bool | 0 => true | k + 1 => inUpto L k && inW L k
/-- What Parse returns: the error, and the numbers. -/
def cpE (t : List UInt8) : Int := if (partsL 32 t).length ≠ 10 then 6 else if okUpto (partsL 32 t) 5 then (if inUpto (partsL 32 t) 5 then 0 else 7) else 6
def cpN (t : List UInt8) (i : Nat) : Int := if cpE t = 0 then numW (partsL 32 t) i else 0

theorem upto_le {f : Nat → Bool} {g : Nat → Bool} (h0 : ∀ k, g (k + 1) = (g k && f k)) : ∀ (n k : Nat), k < n → g n = true → f k = true
  | 0, _, hk, _ => absurd hk (Nat.not_lt_zero _)
  | n + 1, k, hk, h => by
    rw [h0, Bool.and_eq_true] at h
    by_cases e : k = n
    · rw [e]; exact h.2
    · exact upto_le h0 n k (by omega) h.1
theorem ok_at {L : List (List UInt8)} {n k : Nat} (hk : k < n) (h : okUpto L n = true) : L.getD (2 * k) [] = cfgWord k ∧ decimalB (L.getD (2 * k + 1) []) = true := by
  have := upto_le (f := okW L) (g := okUpto L) (fun _ => rfl) n k hk h
  simpa [okW] using this
theorem in_at {L : List (List UInt8)} {n k : Nat} (hk : k < n) (h : inUpto L n = true) : cfgLow k ≤ numW L k ∧ numW L k ≤ cfgHigh k := by
  have := upto_le (f := inW L) (g := inUpto L) (fun _ => rfl) n k hk h
  simpa [inW] using this
theorem ok_bad {L : List (List UInt8)} {k : Nat} (h : okW L k = false) : ∀ {n}, k < n → okUpto L n = false
  | 0, hk => absurd hk (Nat.not_lt_zero _)
  | n + 1, hk => by
    rw [okUpto]
    by_cases e : k = n
    · subst e; rw [h, Bool.and_false]
    · rw [ok_bad h (show k < n by omega), Bool.false_and]
theorem cp_ok {t : List UInt8} (h : cpE t = 0) : (partsL 32 t).length = 10 ∧ okUpto (partsL 32 t) 5 = true ∧ inUpto (partsL 32 t) 5 = true := by
  unfold cpE at h
  split at h
  · cases h
  · rename_i hl
    split at h
    · rename_i ho
      split at h
      · rename_i hi
        exact ⟨by simpa using hl, ho, hi⟩
      · cases h
    · cases h
theorem cp_cfg {t : List UInt8} (h : cpE t = 0) : okC (cpN t 1) (cpN t 0) (cpN t 2) (cpN t 3) (cpN t 4) = true := by
  obtain ⟨_, _, hi⟩ := cp_ok h
  have h0 := in_at (k := 0) (by omega) hi
  have h1 := in_at (k := 1) (by omega) hi
  have h2 := in_at (k := 2) (by omega) hi
  have h3 := in_at (k := 3) (by omega) hi
  have h4 := in_at (k := 4) (by omega) hi
  simp only [cfgLow, cfgHigh] at h0 h1 h2 h3 h4
  simp only [cpN, if_pos h, okC, decide_eq_true_eq]
  omega
/-! The reference's reading: numbers up to a million, then Check. -/
def bigW (L : List (List UInt8)) (i : Nat) : Bool := decide (0 ≤ numW L i ∧ numW L i ≤ 1000000)
def bigUpto (L : List (List UInt8)) : Nat → Bool | 0 => true | k + 1 => bigUpto L k && bigW L k
def bigN (L : List (List UInt8)) (i : Nat) : Int := intV (L.getD (2 * i + 1) []) 0 1000000
theorem big_at {L : List (List UInt8)} {n k : Nat} (hk : k < n) (h : bigUpto L n = true) : 0 ≤ numW L k ∧ numW L k ≤ 1000000 := by
  have := upto_le (f := bigW L) (g := bigUpto L) (fun _ => rfl) n k hk h
  simpa [bigW] using this
theorem big_val {L : List (List UInt8)} {n k : Nat} (hk : k < n) (ho : okUpto L n = true) (h : bigUpto L n = true) : bigN L k = numW L k := by
  unfold bigN intV
  rw [if_pos ⟨(ok_at hk ho).2, big_at hk h⟩]; rfl
theorem big_in {L : List (List UInt8)} (ho : okUpto L 5 = true) : (bigUpto L 5 && okC (bigN L 1) (bigN L 0) (bigN L 2) (bigN L 3) (bigN L 4)) = inUpto L 5 := by
  cases hi : inUpto L 5 with
  | true =>
    have h0 := in_at (k := 0) (by omega) hi
    have h1 := in_at (k := 1) (by omega) hi
    have h2 := in_at (k := 2) (by omega) hi
    have h3 := in_at (k := 3) (by omega) hi
    have h4 := in_at (k := 4) (by omega) hi
    simp only [cfgLow, cfgHigh] at h0 h1 h2 h3 h4
    have hb : bigUpto L 5 = true := by
      simp only [bigUpto, bigW, Bool.true_and, Bool.and_eq_true, decide_eq_true_eq]
      omega
    rw [hb, Bool.true_and, big_val (k := 0) (by omega) ho hb, big_val (k := 1) (by omega) ho hb, big_val (k := 2) (by omega) ho hb, big_val (k := 3) (by omega) ho hb, big_val (k := 4) (by omega) ho hb]
    simp only [okC, decide_eq_true_eq]
    omega
  | false =>
    cases hb : bigUpto L 5 with
    | false => rfl
    | true =>
      rw [Bool.true_and, big_val (k := 0) (by omega) ho hb, big_val (k := 1) (by omega) ho hb, big_val (k := 2) (by omega) ho hb, big_val (k := 3) (by omega) ho hb, big_val (k := 4) (by omega) ho hb]
      rw [← Bool.not_eq_true]
      intro e
      simp only [okC, decide_eq_true_eq] at e
      rw [← Bool.not_eq_true] at hi
      apply hi
      simp only [inUpto, inW, cfgLow, cfgHigh, Bool.true_and, Bool.and_eq_true, decide_eq_true_eq]
      omega

/-! Parse of Print, Print of Parse. -/
theorem no32_dig {l : List UInt8} (h : l.all digB = true) : ∀ x ∈ l, x ≠ 32 := by
  intro x hx e
  have := List.all_eq_true.1 h x hx
  subst e
  exact absurd this (by decide)
theorem no32_itoa (n : Int) : ∀ x ∈ Lib.itoa n, x ≠ 32 := by
  unfold Lib.itoa
  split
  · intro x hx
    rcases List.mem_cons.1 hx with rfl | hx
    · decide
    · exact no32_dig (dec_all _) x hx
  · exact no32_dig (dec_all _)
theorem no32_word (i : Nat) : ∀ x ∈ cfgWord i, x ≠ 32 := by
  unfold cfgWord
  split <;> decide
theorem cparts_join : ∀ (L : List (List UInt8)), L ≠ [] → (∀ p ∈ L, ∀ x ∈ p, x ≠ 32) → partsL 32 (Lib.join L [32]) = L
  | [], h, _ => absurd rfl h
  | [p], _, h => by
    have : Lib.join [p] [32] = p := by simp [Lib.join, List.intercalate]
    rw [this, parts_none (h p (by simp))]
  | p :: q :: L, _, h => by
    have e : Lib.join (p :: q :: L) [32] = p ++ 32 :: Lib.join (q :: L) [32] := by simp [Lib.join, List.intercalate]
    rw [e, parts_cut _ (h p (by simp)), cparts_join (q :: L) (by simp) (fun x hx => h x (by simp [List.mem_cons.1 hx]))]
theorem join_parts : ∀ (t : List UInt8), Lib.join (partsL 32 t) [32] = t
  | [] => rfl
  | x :: r => by
    have ih := join_parts r
    have hne := parts_ne 32 r
    rw [partsL]
    cases hp : partsL 32 r with
    | nil => exact absurd hp hne
    | cons p ps =>
      rw [hp] at ih
      split
      · rename_i e
        subst e
        have : Lib.join ([] :: p :: ps) [32] = 32 :: Lib.join (p :: ps) [32] := by simp [Lib.join, List.intercalate]
        rw [this, ih]
      · cases ps with
        | nil =>
          have e1 : Lib.join [p] [32] = p := by simp [Lib.join, List.intercalate]
          rw [e1] at ih
          subst ih
          simp [Lib.join, List.intercalate]
        | cons q ps =>
          have e1 : Lib.join (p :: q :: ps) [32] = p ++ 32 :: Lib.join (q :: ps) [32] := by simp [Lib.join, List.intercalate]
          have e2 : Lib.join ((x :: p) :: q :: ps) [32] = (x :: p) ++ 32 :: Lib.join (q :: ps) [32] := by simp [Lib.join, List.intercalate]
          simp only
          rw [e2, List.cons_append, ← e1, ih]
/-- The text of a config. -/
def cfgStrs (C N S K Q : Int) : List (List UInt8) := [cfgWord 0, Lib.itoa N, cfgWord 1, Lib.itoa C, cfgWord 2, Lib.itoa S, cfgWord 3, Lib.itoa K, cfgWord 4, Lib.itoa Q]
def cfgT (C N S K Q : Int) : List UInt8 := Lib.join (cfgStrs C N S K Q) [32]
theorem cfg_parts (C N S K Q : Int) : partsL 32 (cfgT C N S K Q) = cfgStrs C N S K Q := by
  refine cparts_join _ (by simp [cfgStrs]) (fun p hp => ?_)
  simp only [cfgStrs, List.mem_cons, List.not_mem_nil, or_false] at hp
  rcases hp with rfl | rfl | rfl | rfl | rfl | rfl | rfl | rfl | rfl | rfl
  all_goals first | exact no32_word _ | exact no32_itoa _
theorem parse_print {C N S K Q : Int} (h : okC C N S K Q = true) : cpE (cfgT C N S K Q) = 0 ∧ cpN (cfgT C N S K Q) 0 = N ∧ cpN (cfgT C N S K Q) 1 = C ∧ cpN (cfgT C N S K Q) 2 = S ∧ cpN (cfgT C N S K Q) 3 = K ∧ cpN (cfgT C N S K Q) 4 = Q := by
  have b := okC_bounds h
  have v0 : numW (cfgStrs C N S K Q) 0 = N := (itoa_decimal N).2
  have v1 : numW (cfgStrs C N S K Q) 1 = C := (itoa_decimal C).2
  have v2 : numW (cfgStrs C N S K Q) 2 = S := (itoa_decimal S).2
  have v3 : numW (cfgStrs C N S K Q) 3 = K := (itoa_decimal K).2
  have v4 : numW (cfgStrs C N S K Q) 4 = Q := (itoa_decimal Q).2
  have d0 : okW (cfgStrs C N S K Q) 0 = true := by show (cfgWord 0 == cfgWord 0 && decimalB (Lib.itoa N)) = true; rw [(itoa_decimal N).1]; decide
  have d1 : okW (cfgStrs C N S K Q) 1 = true := by show (cfgWord 1 == cfgWord 1 && decimalB (Lib.itoa C)) = true; rw [(itoa_decimal C).1]; decide
  have d2 : okW (cfgStrs C N S K Q) 2 = true := by show (cfgWord 2 == cfgWord 2 && decimalB (Lib.itoa S)) = true; rw [(itoa_decimal S).1]; decide
  have d3 : okW (cfgStrs C N S K Q) 3 = true := by show (cfgWord 3 == cfgWord 3 && decimalB (Lib.itoa K)) = true; rw [(itoa_decimal K).1]; decide
  have d4 : okW (cfgStrs C N S K Q) 4 = true := by show (cfgWord 4 == cfgWord 4 && decimalB (Lib.itoa Q)) = true; rw [(itoa_decimal Q).1]; decide
  have e : cpE (cfgT C N S K Q) = 0 := by
    unfold cpE
    rw [cfg_parts, if_neg (by simp [cfgStrs]), if_pos (by simp only [okUpto, d0, d1, d2, d3, d4, Bool.and_self]), if_pos]
    simp only [inUpto, inW, v0, v1, v2, v3, v4, cfgLow, cfgHigh, Bool.true_and, Bool.and_eq_true, decide_eq_true_eq]
    omega
  refine ⟨e, ?_, ?_, ?_, ?_, ?_⟩ <;> (unfold cpN; rw [if_pos e, cfg_parts]; assumption)
theorem list10 {α : Type} {L : List α} {d : α} (h : L.length = 10) : L = [L.getD 0 d, L.getD 1 d, L.getD 2 d, L.getD 3 d, L.getD 4 d, L.getD 5 d, L.getD 6 d, L.getD 7 d, L.getD 8 d, L.getD 9 d] := by
  match L, h with
  | [a, b, c, d, e, f, g, i, j, k], _ => rfl
theorem print_parse {t : List UInt8} (h : cpE t = 0) : cfgT (cpN t 1) (cpN t 0) (cpN t 2) (cpN t 3) (cpN t 4) = t := by
  obtain ⟨hl, ho, _⟩ := cp_ok h
  have w0 := ok_at (k := 0) (by omega) ho
  have w1 := ok_at (k := 1) (by omega) ho
  have w2 := ok_at (k := 2) (by omega) ho
  have w3 := ok_at (k := 3) (by omega) ho
  have w4 := ok_at (k := 4) (by omega) ho
  simp only [cpN, if_pos h]
  have e : cfgStrs (numW (partsL 32 t) 1) (numW (partsL 32 t) 0) (numW (partsL 32 t) 2) (numW (partsL 32 t) 3) (numW (partsL 32 t) 4) = partsL 32 t := by
    unfold cfgStrs numW
    rw [itoa_of w0.2, itoa_of w1.2, itoa_of w2.2, itoa_of w3.2, itoa_of w4.2, ← w0.1, ← w1.1, ← w2.1, ← w3.1, ← w4.1]
    exact (list10 hl).symm
  unfold cfgT
  rw [e, join_parts]

end Go.Proofs.YtabopillicdjaaaGreatDoor.Wd

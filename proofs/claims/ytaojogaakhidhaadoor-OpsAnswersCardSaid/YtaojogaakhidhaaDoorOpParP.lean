/- Parse, Print and the reference's Check in plain Lean: the loops' steps. -/
import Derived.Test.YtaojogaakhidhaaDoorOpPl3
namespace Go.Proofs.YtaojogaakhidhaaDoor
namespace Sc
open Wd (intV intE splitE splitS)
theorem fldE_cases (i : Nat) (x : List UInt8 × Bool) : fldE i x = 0 ∨ fldE i x = 6 ∨ fldE i x = 7 := by
  unfold fldE unhexE Wd.intE
  repeat' split
  all_goals simp
theorem readE_cases : ∀ (is : List Nat) (xs : List (List UInt8 × Bool)), readE is xs = 0 ∨ readE is xs = 6 ∨ readE is xs = 7
  | [], _ => by simp [readE]
  | _ :: _, [] => by simp [readE]
  | i :: is, x :: xs => by
    simp only [readE]
    repeat' split
    all_goals simp
/-- The error after one field more. -/
def combE (e x : Int) : Int := if e = 6 then 6 else if x = 6 then 6 else if x = 7 ∨ e = 7 then 7 else 0
theorem readE_snoc : ∀ (is : List Nat) (xs : List (List UInt8 × Bool)) (a : Nat) (b : List UInt8 × Bool), is.length = xs.length → readE (is ++ [a]) (xs ++ [b]) = combE (readE is xs) (fldE a b)
  | [], [], a, b, _ => by
    have := fldE_cases a b
    simp only [List.nil_append, readE, combE]
    rcases this with h | h | h <;> simp [h]
  | [], _ :: _, _, _, h => by simp at h
  | _ :: _, [], _, _, h => by simp at h
  | i :: is, x :: xs, a, b, h => by
    have ih := readE_snoc is xs a b (by simpa using h)
    simp only [List.cons_append, readE]
    rw [ih]
    have h1 := fldE_cases i x
    have h2 := fldE_cases a b
    have h3 := readE_cases is xs
    unfold combE
    rcases h1 with h1 | h1 | h1 <;> rcases h2 with h2 | h2 | h2 <;> rcases h3 with h3 | h3 | h3 <;> simp [h1, h2, h3]
theorem readE_six : ∀ (is : List Nat) (xs : List (List UInt8 × Bool)) (js : List Nat) (ys : List (List UInt8 × Bool)), is.length = xs.length → readE is xs = 6 → readE (is ++ js) (xs ++ ys) = 6
  | [], [], _, _, _, h => by simp [readE] at h
  | [], _ :: _, _, _, h, _ => by simp at h
  | _ :: _, [], _, _, h, _ => by simp at h
  | i :: is, x :: xs, js, ys, hl, h => by
    have ih := readE_six is xs js ys (by simpa using hl)
    simp only [List.cons_append, readE] at h ⊢
    by_cases h1 : fldE i x = 6
    · simp [h1]
    · by_cases h2 : readE is xs = 6
      · rw [ih h2]; simp
      · rw [if_neg h1, if_neg h2] at h
        split at h <;> simp at h
theorem readC_snoc : ∀ (is : List Nat) (xs : List (List UInt8 × Bool)) (c : OC) (a : Nat) (b : List UInt8 × Bool), is.length = xs.length → readC c (is ++ [a]) (xs ++ [b]) = setN (readC c is xs) a (fldN a b)
  | [], [], c, a, b, _ => by simp [readC]
  | [], _ :: _, _, _, _, h => by simp at h
  | _ :: _, [], _, _, _, h => by simp at h
  | i :: is, x :: xs, c, a, b, h => by
    simp only [List.cons_append, readC]
    exact readC_snoc is xs _ a b (by simpa using h)
theorem take_one {α : Type} {l : List α} {i : Nat} {a : α} (h : l[i]? = some a) : l.take (i + 1) = l.take i ++ [a] := by
  rw [List.take_add_one, h]; rfl
/-- What is read of the first fields. -/
def rdE (is : List Nat) (xs : List (List UInt8 × Bool)) (i : Nat) : Int := readE (is.take i) (xs.take i)
def rdC (c : OC) (is : List Nat) (xs : List (List UInt8 × Bool)) (i : Nat) : OC := readC c (is.take i) (xs.take i)
theorem take_len {is : List Nat} {xs : List (List UInt8 × Bool)} {i : Nat} (hl : is.length = xs.length) : (is.take i).length = (xs.take i).length := by simp [hl]
theorem rdE_zero (is : List Nat) (xs : List (List UInt8 × Bool)) : rdE is xs 0 = 0 := by simp [rdE, readE]
theorem rdC_zero (c : OC) (is : List Nat) (xs : List (List UInt8 × Bool)) : rdC c is xs 0 = c := by simp [rdC, readC]
theorem rdE_next {is : List Nat} {xs : List (List UInt8 × Bool)} {i a : Nat} {b : List UInt8 × Bool} (hl : is.length = xs.length) (ha : is[i]? = some a) (hb : xs[i]? = some b) : rdE is xs (i + 1) = combE (rdE is xs i) (fldE a b) := by
  unfold rdE
  rw [take_one ha, take_one hb]
  exact readE_snoc _ _ _ _ (take_len hl)
theorem rdC_next {c : OC} {is : List Nat} {xs : List (List UInt8 × Bool)} {i a : Nat} {b : List UInt8 × Bool} (hl : is.length = xs.length) (ha : is[i]? = some a) (hb : xs[i]? = some b) : rdC c is xs (i + 1) = setN (rdC c is xs i) a (fldN a b) := by
  unfold rdC
  rw [take_one ha, take_one hb]
  exact readC_snoc _ _ _ _ _ (take_len hl)
theorem rdE_six {is : List Nat} {xs : List (List UInt8 × Bool)} {i a : Nat} {b : List UInt8 × Bool} (hl : is.length = xs.length) (ha : is[i]? = some a) (hb : xs[i]? = some b) (h6 : fldE a b = 6) : readE is xs = 6 := by
  have h1 : rdE is xs (i + 1) = 6 := by
    rw [rdE_next hl ha hb]; unfold combE
    split
    · rfl
    · rfl
  have h2 := readE_six (is.take (i + 1)) (xs.take (i + 1)) (is.drop (i + 1)) (xs.drop (i + 1)) (take_len hl) h1
  rwa [List.take_append_drop, List.take_append_drop] at h2
theorem rdE_all {is : List Nat} {xs : List (List UInt8 × Bool)} (hl : is.length = xs.length) {i : Nat} (h : is.length ≤ i) : rdE is xs i = readE is xs := by
  unfold rdE; rw [List.take_of_length_le h, List.take_of_length_le (by omega)]
theorem rdC_all {c : OC} {is : List Nat} {xs : List (List UInt8 × Bool)} (hl : is.length = xs.length) {i : Nat} (h : is.length ≤ i) : rdC c is xs i = readC c is xs := by
  unfold rdC; rw [List.take_of_length_le h, List.take_of_length_le (by omega)]
/-! Print. -/
def prT (c : OC) (i : Nat) : List UInt8 := kw c.k ++ ((kf c.k).take i).flatMap fun i => 32 :: fieldS c i
theorem prT_zero (c : OC) : prT c 0 = kw c.k := by simp [prT]
theorem prT_next {c : OC} {i a : Nat} (h : (kf c.k)[i]? = some a) : prT c (i + 1) = prT c i ++ 32 :: fieldS c a := by
  unfold prT; rw [take_one h]; simp
theorem prT_all {c : OC} {i : Nat} (h : (kf c.k).length ≤ i) : prT c i = lineT c := by
  unfold prT lineT; rw [List.take_of_length_le h]
theorem fieldS_len17 {c : OC} {i : Nat} (hw : WfC c) (h : i = 6 ∨ inR (num c i) = true) : (fieldS c i).length ≤ 16 := fieldS_short hw h
theorem kw_len (k : Int) : (kw k).length ≤ 7 := by
  unfold kw
  repeat' split
  all_goals simp
theorem kf_three (k : Int) : (kf k).length ≤ 3 := by
  unfold kf
  repeat' split
  all_goals simp
theorem prT_len {c : OC} (hw : WfC c) (h : chkE c = 0) (i : Nat) : (prT c i).length ≤ 60 := by
  have h3 := (chk_parts h).2.2
  have h4 : (((kf c.k).take i).flatMap fun i => 32 :: fieldS c i).length ≤ 17 * ((kf c.k).take i).length := by
    rw [flat_map]
    refine Nat.le_trans (flat_len _ ?_) (by simp)
    intro x hx
    simp only [List.mem_map] at hx
    obtain ⟨j, hj, rfl⟩ := hx
    exact fieldS_short hw (h3 j (List.mem_of_mem_take hj))
  have h5 := kw_len c.k
  have h6 := kf_three c.k
  have h7 : ((kf c.k).take i).length ≤ 3 := by rw [List.length_take]; omega
  unfold prT
  rw [List.length_append]
  omega
/-! The reference's Check. -/
theorem chk_kind {c : OC} (h : ¬ (1 ≤ c.k ∧ c.k ≤ 11)) : chkE c = 2 := by
  unfold chkE kindOk; rw [decide_eq_false h]; rfl
theorem bare_mk {c : OC} (h : ∀ i, 1 ≤ i → i ≤ 6 → (kf c.k).contains i = true ∨ num c i = 0) : bareOk c = true := by
  unfold bareOk
  simp only [List.all_eq_true, Bool.or_eq_true, beq_iff_eq]
  intro i hi
  simp only [List.mem_cons, List.not_mem_nil, or_false] at hi
  exact h i (by omega) (by omega)
theorem chk_bare {c : OC} (i : Nat) (h1 : 1 ≤ i) (h6 : i ≤ 6) (hc : (kf c.k).contains i = false) (hn : num c i ≠ 0) : chkE c = 2 := by
  have : bareOk c = false := by
    rw [← Bool.not_eq_true]
    intro e
    unfold bareOk at e
    simp only [List.all_eq_true, Bool.or_eq_true, beq_iff_eq] at e
    have := e i (by simp only [List.mem_cons, List.not_mem_nil, or_false]; omega)
    rw [hc] at this
    rcases this with h | h
    · cases h
    · exact hn h
  unfold chkE; rw [this]; simp
theorem chk_range {c : OC} (hk : 1 ≤ c.k ∧ c.k ≤ 11) (hb : bareOk c = true) (i : Nat) (h1 : 1 ≤ i) (h5 : i ≤ 5) (hr : inR (num c i) = false) : chkE c = 7 := by
  have hm : i ∈ kf c.k := by
    unfold bareOk at hb
    simp only [List.all_eq_true, Bool.or_eq_true, beq_iff_eq] at hb
    rcases hb i (by simp only [List.mem_cons, List.not_mem_nil, or_false]; omega) with h | h
    · simpa using h
    · rw [h] at hr; simp [inR] at hr
  have : rangeOk c = false := by
    rw [← Bool.not_eq_true]
    intro e
    unfold rangeOk at e
    simp only [List.all_eq_true, Bool.or_eq_true, beq_iff_eq] at e
    rcases e i hm with h | h
    · omega
    · rw [hr] at h; cases h
  unfold chkE kindOk; rw [this, hb, decide_eq_true hk]; rfl
theorem chk_zero {c : OC} (hk : 1 ≤ c.k ∧ c.k ≤ 11) (hb : bareOk c = true) (h : ∀ i, 1 ≤ i → i ≤ 5 → inR (num c i) = true) : chkE c = 0 := by
  have : rangeOk c = true := by
    unfold rangeOk
    simp only [List.all_eq_true, Bool.or_eq_true, beq_iff_eq]
    intro i hi
    obtain ⟨j, hj, h1, h12⟩ := k_nat hk
    have := kf_in j h12 i (by rw [hj]; exact hi)
    by_cases h6 : i = 6
    · exact .inl h6
    · exact .inr (h i this.1 (by omega))
  unfold chkE kindOk; rw [this, hb, decide_eq_true hk]; rfl
theorem chk_vals (c : OC) : chkE c = 0 ∨ chkE c = 2 ∨ chkE c = 7 := by
  unfold chkE
  repeat' split
  all_goals simp
end Sc
end Go.Proofs.YtaojogaakhidhaaDoor

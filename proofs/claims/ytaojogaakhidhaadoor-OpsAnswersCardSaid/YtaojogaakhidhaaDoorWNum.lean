/- The plain laws of chapter 1: decimal forms of integers. No program in sight. -/
import Derived.Lib.ParseIntB
import Derived.Lib.ItoaNum
namespace Go.Proofs.YtaojogaakhidhaaDoor.Wd

def digB (c : UInt8) : Bool := 48 ≤ c && c ≤ 57
theorem digB_iff (c : UInt8) : digB c = true ↔ 48 ≤ c.toNat ∧ c.toNat ≤ 57 := by
  simp [digB, UInt8.le_iff_toNat_le]
def natFrom (a : Nat) (l : List UInt8) : Nat := l.foldl (fun a c => a * 10 + (c.toNat - 48)) a
theorem natFrom_nil (a : Nat) : natFrom a [] = a := rfl
theorem natFrom_cons (a : Nat) (c : UInt8) (l : List UInt8) : natFrom a (c :: l) = natFrom (a * 10 + (c.toNat - 48)) l := by unfold natFrom; rw [List.foldl_cons]
theorem natFrom_snoc (a : Nat) (l : List UInt8) (c : UInt8) : natFrom a (l ++ [c]) = natFrom a l * 10 + (c.toNat - 48) := by simp [natFrom, List.foldl_append]
theorem natFrom_ge : ∀ (l : List UInt8) (a : Nat), a ≤ natFrom a l
  | [], a => Nat.le_refl _
  | c :: l, a => by rw [natFrom_cons]; have := natFrom_ge l (a * 10 + (c.toNat - 48)); omega
theorem natFrom_app (a : Nat) (l m : List UInt8) : natFrom a (l ++ m) = natFrom (natFrom a l) m := by simp [natFrom, List.foldl_append]
theorem natFrom_mono : ∀ (l : List UInt8) (a b : Nat), a ≤ b → natFrom a l ≤ natFrom b l
  | [], a, b, h => h
  | c :: l, a, b, h => by rw [natFrom_cons, natFrom_cons]; exact natFrom_mono l _ _ (by omega)

/-- What stands behind a leading minus sign. -/
def unsign (l : List UInt8) : List UInt8 := if l.head? = some 45 then l.tail else l
/-- Is a string the decimal form of an integer? -/
def decimalB (l : List UInt8) : Bool := !(unsign l).isEmpty && (unsign l).all digB && ((unsign l).head? != some 48 || l == [48])
def decVal (l : List UInt8) : Int := if l.head? = some 45 then -(natFrom 0 (unsign l) : Int) else natFrom 0 (unsign l)
/-- What Int returns: the number, and the error. -/
def intV (l : List UInt8) (lo hi : Int) : Int := if decimalB l = true ∧ lo ≤ decVal l ∧ decVal l ≤ hi then decVal l else 0
def intE (l : List UInt8) (lo hi : Int) : Int := if decimalB l = true then (if lo ≤ decVal l ∧ decVal l ≤ hi then 0 else 7) else 6

theorem decimal_parts {l : List UInt8} (h : decimalB l = true) : unsign l ≠ [] ∧ (unsign l).all digB = true ∧ ((unsign l).head? ≠ some 48 ∨ l = [48]) := by
  simp only [decimalB, Bool.and_eq_true, Bool.not_eq_true', List.isEmpty_eq_false_iff, Bool.or_eq_true, bne_iff_ne, beq_iff_eq] at h
  exact ⟨h.1.1, h.1.2, h.2⟩
theorem decimal_mk {l : List UInt8} (h1 : unsign l ≠ []) (h2 : (unsign l).all digB = true) (h3 : (unsign l).head? ≠ some 48 ∨ l = [48]) : decimalB l = true := by
  simp only [decimalB, Bool.and_eq_true, Bool.not_eq_true', List.isEmpty_eq_false_iff, Bool.or_eq_true, bne_iff_ne, beq_iff_eq]
  exact ⟨⟨h1, h2⟩, h3⟩

theorem parseUintM_dig : ∀ (l : List UInt8) (acc : Nat), l.all digB = true → acc ≤ 18446744073709551615 → Lib.parseUintM 18446744073709551615 acc l = if natFrom acc l ≤ 18446744073709551615 then .ok (natFrom acc l) else .range
  | [], acc, _, ha => by rw [natFrom_nil, if_pos ha]; rfl
  | c :: r, acc, h, ha => by
    simp only [List.all_cons, Bool.and_eq_true] at h
    have hc := (digB_iff c).1 h.1
    rw [Lib.parseUintM, if_pos hc, natFrom_cons]
    have hg := natFrom_ge r (acc * 10 + (c.toNat - 48))
    by_cases h1 : 1844674407370955162 ≤ acc
    · rw [if_pos h1, if_neg (by omega)]
    · rw [if_neg h1]
      by_cases h2 : 18446744073709551615 < acc * 10 + (c.toNat - 48)
      · rw [if_pos h2, if_neg (by omega)]
      · rw [if_neg h2]
        exact parseUintM_dig r _ h.2 (by omega)

theorem pow64 : (2 ^ 64 - 1 : Nat) = 18446744073709551615 := by decide
theorem pow63 : (2 ^ (64 - 1) : Nat) = 9223372036854775808 := by decide

theorem parseUint_dec {t : List UInt8} (h1 : t ≠ []) (h2 : t.all digB = true) : Lib.parseUintB 64 t = if natFrom 0 t ≤ 18446744073709551615 then .ok (natFrom 0 t) else .range := by
  unfold Lib.parseUintB
  rw [if_neg h1, pow64, parseUintM_dig t 0 h2 (by omega)]
theorem parseInt_dec {l : List UInt8} (h : decimalB l = true) :
    Lib.parseIntB 64 l = if -9223372036854775808 ≤ decVal l ∧ decVal l ≤ 9223372036854775807 then .ok (decVal l) else .range := by
  obtain ⟨h1, h2, h3⟩ := decimal_parts h
  match l, h1, h2, h3 with
  | c :: r, h1, h2, _ =>
    by_cases hc : c = 45
    · subst hc
      have e : unsign (45 :: r) = r := rfl
      rw [e] at h1 h2
      have hp := parseUint_dec h1 h2
      have hv : decVal (45 :: r) = -(natFrom 0 r : Int) := rfl
      rw [hv]
      generalize natFrom 0 r = v at hp hv
      unfold Lib.parseIntB
      simp only
      rw [if_pos (show (45 : UInt8).toNat = 43 ∨ (45 : UInt8).toNat = 45 from .inr rfl), hp, pow63]
      by_cases hv1 : v ≤ 18446744073709551615
      · rw [if_pos hv1]
        simp only
        rw [if_neg (fun e => e.1 rfl), if_pos (show (45 : UInt8).toNat = 45 from rfl)]
        by_cases hv2 : 9223372036854775808 < v
        · rw [if_pos ⟨rfl, hv2⟩, if_neg (by omega)]
        · rw [if_neg (fun e => hv2 e.2), if_pos (by omega)]
      · rw [if_neg hv1, if_neg (by omega)]
    · have hh : ¬ (c :: r).head? = some 45 := by simpa using hc
      have e : unsign (c :: r) = c :: r := by unfold unsign; rw [if_neg hh]
      rw [e] at h1 h2
      have hp := parseUint_dec h1 h2
      have hv : decVal (c :: r) = (natFrom 0 (c :: r) : Int) := by unfold decVal; rw [if_neg hh, e]
      rw [hv]
      simp only [List.all_cons, Bool.and_eq_true] at h2
      have hd := (digB_iff c).1 h2.1
      generalize natFrom 0 (c :: r) = v at hp hv
      unfold Lib.parseIntB
      simp only
      rw [if_neg (show ¬ (c.toNat = 43 ∨ c.toNat = 45) by omega), hp, pow63]
      by_cases hv1 : v ≤ 18446744073709551615
      · rw [if_pos hv1]
        simp only
        rw [if_neg (fun (e : c.toNat = 45 ∧ 9223372036854775808 < v) => absurd e.1 (by omega)), if_neg (show ¬ c.toNat = 45 by omega)]
        by_cases hv2 : 9223372036854775808 ≤ v
        · rw [if_pos ⟨by omega, hv2⟩, if_neg (by omega)]
        · rw [if_neg (fun e => hv2 e.2), if_pos (by omega)]
      · rw [if_neg hv1, if_neg (by omega)]

/-! The reference's loop. -/
theorem natFrom_take (a : Nat) (l : List UInt8) (k : Nat) (h : k < l.length) : natFrom a (l.take (k + 1)) = natFrom a (l.take k) * 10 + (l[k].toNat - 48) := by
  rw [List.take_succ_eq_append_getElem h, natFrom_snoc]
theorem natFrom_take_le (a : Nat) (l : List UInt8) (k : Nat) : natFrom a (l.take k) ≤ natFrom a l := by
  conv => rhs; rw [← List.take_append_drop k l, natFrom_app]
  exact natFrom_ge _ _
/-- The test ahead of a step, with Go's division. -/
theorem step_over (n d : Int) (_hn : n ≤ 0) (h0 : 0 ≤ d) (h9 : d ≤ 9) : n < Int.tdiv (-9223372036854775808 + d) 10 ↔ 10 * n - d < -9223372036854775808 := by
  have e : Int.tdiv (-9223372036854775808 + d) 10 = -((9223372036854775808 - d) / 10) := by
    rw [show (-9223372036854775808 + d) = -(9223372036854775808 - d) by omega, Int.neg_tdiv, Int.tdiv_eq_ediv_of_nonneg (by omega)]
  rw [e]
  omega

/-! The digits of a number. -/
theorem dec_small {u : Nat} (h : u < 10) : Lib.decDigits u = [UInt8.ofNat (48 + u)] := by rw [Lib.decDigits, dif_pos h]
theorem dec_big {u : Nat} (h : ¬ u < 10) : Lib.decDigits u = Lib.decDigits (u / 10) ++ [UInt8.ofNat (48 + u % 10)] := by rw [Lib.decDigits, dif_neg h]
theorem dg_nat {u : Nat} (h : u < 10) : (UInt8.ofNat (48 + u)).toNat = 48 + u := by simp [UInt8.toNat_ofNat']; omega
theorem dec_ne (u : Nat) : Lib.decDigits u ≠ [] := by
  by_cases h : u < 10
  · rw [dec_small h]; simp
  · rw [dec_big h]; simp
theorem dec_all (u : Nat) : (Lib.decDigits u).all digB = true := by
  induction u using Nat.strongRecOn with
  | _ u ih =>
    by_cases h : u < 10
    · rw [dec_small h]
      simp only [List.all_cons, List.all_nil, Bool.and_true]
      rw [digB_iff, dg_nat h]; omega
    · rw [dec_big h, List.all_append, ih _ (by omega)]
      simp only [List.all_cons, List.all_nil, Bool.and_true, Bool.true_and]
      rw [digB_iff, dg_nat (by omega)]; omega
theorem dec_val (u : Nat) : natFrom 0 (Lib.decDigits u) = u := by
  induction u using Nat.strongRecOn with
  | _ u ih =>
    by_cases h : u < 10
    · rw [dec_small h, natFrom_cons, natFrom_nil, dg_nat h]; omega
    · rw [dec_big h, natFrom_snoc, ih _ (by omega), dg_nat (by omega)]; omega
theorem head_app {α : Type} {l m : List α} (h : l ≠ []) : (l ++ m).head? = l.head? := by
  cases l with
  | nil => exact absurd rfl h
  | cons a l => rfl
theorem dec_head (u : Nat) (h0 : u ≠ 0) : (Lib.decDigits u).head? ≠ some 48 := by
  induction u using Nat.strongRecOn with
  | _ u ih =>
    by_cases h : u < 10
    · rw [dec_small h]
      intro e
      simp only [List.head?_cons, Option.some.injEq] at e
      have := congrArg UInt8.toNat e
      rw [dg_nat h] at this
      simp at this
      omega
    · rw [dec_big h, head_app (dec_ne _)]
      exact ih _ (by omega) (by omega)
theorem dec_not_minus (u : Nat) : (Lib.decDigits u).head? ≠ some 45 := by
  intro e
  have ha := dec_all u
  match hl : Lib.decDigits u, e with
  | c :: r, e =>
    rw [hl] at ha
    simp only [List.head?_cons, Option.some.injEq] at e
    subst e
    simp [digB] at ha
theorem dec_zero : Lib.decDigits 0 = [48] := by rw [dec_small (by omega)]; rfl
/-- A decimal form without a sign is that of its number. -/
theorem dec_of (l : List UInt8) (hn : l ≠ []) (ha : l.all digB = true) (hz : l.head? ≠ some 48 ∨ l = [48]) : Lib.decDigits (natFrom 0 l) = l ∧ (l.head? ≠ some 48 → natFrom 0 l ≠ 0) := by
  generalize hk : l.length = k
  induction k generalizing l with
  | zero => cases l with
    | nil => exact absurd rfl hn
    | cons a l => cases hk
  | succ k ih =>
    obtain ⟨m, c, rfl⟩ : ∃ m c, l = m ++ [c] := ⟨l.dropLast, l.getLast hn, (List.dropLast_concat_getLast hn).symm⟩
    simp only [List.all_append, List.all_cons, List.all_nil, Bool.and_true, Bool.and_eq_true] at ha
    have hd := (digB_iff c).1 ha.2
    have ec : UInt8.ofNat (48 + (c.toNat - 48)) = c := by rw [show 48 + (c.toNat - 48) = c.toNat by omega]; simp
    rw [natFrom_snoc]
    cases m with
    | nil =>
      simp only [natFrom_nil, List.nil_append, Nat.zero_mul, Nat.zero_add]
      rw [dec_small (by omega), ec]
      refine ⟨rfl, fun h => ?_⟩
      simp only [List.head?_cons, ne_eq, Option.some.injEq] at h
      intro e
      apply h
      apply UInt8.toNat_inj.1
      simp
      omega
    | cons a m =>
      have hz' : (a :: m).head? ≠ some 48 := by
        rcases hz with hz | hz
        · simpa using hz
        · simp at hz
      obtain ⟨i1, i2⟩ := ih (a :: m) (by simp) ha.1 (.inl hz') (by simpa using hk)
      have hp := i2 hz'
      generalize natFrom 0 (a :: m) = v at i1 hp
      rw [dec_big (by omega), show (v * 10 + (c.toNat - 48)) / 10 = v by omega, show (v * 10 + (c.toNat - 48)) % 10 = c.toNat - 48 by omega, i1, ec]
      exact ⟨rfl, fun _ => by omega⟩

theorem unsign_minus (r : List UInt8) : unsign (45 :: r) = r := rfl
theorem unsign_other {l : List UInt8} (h : l.head? ≠ some 45) : unsign l = l := by unfold unsign; rw [if_neg h]
/-- Int of Digits. -/
theorem itoa_decimal (n : Int) : decimalB (Lib.itoa n) = true ∧ decVal (Lib.itoa n) = n := by
  by_cases hn : n < 0
  · have e : Lib.itoa n = 45 :: Lib.decDigits n.natAbs := by unfold Lib.itoa; rw [if_pos hn]
    rw [e]
    refine ⟨decimal_mk (by rw [unsign_minus]; exact dec_ne _) (by rw [unsign_minus]; exact dec_all _) (.inl (by rw [unsign_minus]; exact dec_head _ (by omega))), ?_⟩
    show -(natFrom 0 (Lib.decDigits n.natAbs) : Int) = n
    rw [dec_val]; omega
  · have e : Lib.itoa n = Lib.decDigits n.toNat := by unfold Lib.itoa; rw [if_neg hn]
    rw [e]
    have hm := dec_not_minus n.toNat
    refine ⟨decimal_mk (by rw [unsign_other hm]; exact dec_ne _) (by rw [unsign_other hm]; exact dec_all _) ?_, ?_⟩
    · rw [unsign_other hm]
      by_cases h0 : n.toNat = 0
      · rw [h0]; exact .inr dec_zero
      · exact .inl (dec_head _ h0)
    · unfold decVal
      rw [if_neg hm, unsign_other hm, dec_val]; omega
/-- Digits of Int. -/
theorem itoa_of {l : List UInt8} (h : decimalB l = true) : Lib.itoa (decVal l) = l := by
  obtain ⟨h1, h2, h3⟩ := decimal_parts h
  by_cases hm : l.head? = some 45
  · match l, hm with
    | c :: r, hm =>
      obtain rfl : c = 45 := by simpa using hm
      rw [unsign_minus] at h1 h2 h3
      have h3' : r.head? ≠ some 48 := h3.resolve_right (by simp)
      obtain ⟨a, b⟩ := dec_of r h1 h2 (.inl h3')
      have hp := b h3'
      show Lib.itoa (-(natFrom 0 r : Int)) = _
      unfold Lib.itoa
      rw [if_pos (by omega), show (-(natFrom 0 r : Int)).natAbs = natFrom 0 r by omega, a]
  · rw [unsign_other hm] at h1 h2 h3
    obtain ⟨a, _⟩ := dec_of l h1 h2 h3
    unfold decVal
    rw [if_neg hm, unsign_other hm]
    unfold Lib.itoa
    rw [if_neg (by omega), show ((natFrom 0 l : Nat) : Int).toNat = natFrom 0 l by omega, a]

/-- The steps of the reference's Digits. -/
theorem itoa_step {n : Int} (h : n > 9 ∨ n < -9) : Lib.itoa n = Lib.itoa (Int.tdiv n 10) ++ [UInt8.ofNat (48 + n.natAbs % 10)] := by
  rcases h with h | h
  · rw [Int.tdiv_eq_ediv_of_nonneg (by omega)]
    unfold Lib.itoa
    rw [if_neg (by omega), if_neg (by omega), dec_big (by omega), show n.natAbs = n.toNat by omega, show (n / 10).toNat = n.toNat / 10 by omega]
  · obtain ⟨m, rfl⟩ : ∃ m : Int, n = -m := ⟨-n, by omega⟩
    rw [Int.neg_tdiv, Int.tdiv_eq_ediv_of_nonneg (by omega)]
    unfold Lib.itoa
    rw [if_pos (by omega), if_pos (by omega), dec_big (by omega), show (-m).natAbs / 10 = (-(m / 10)).natAbs by omega]
    rfl
theorem itoa_neg {n : Int} (h0 : n < 0) : Lib.itoa n = 45 :: Lib.itoa (-n) := by
  unfold Lib.itoa
  rw [if_pos h0, if_neg (by omega), show n.natAbs = (-n).toNat by omega]
theorem itoa_one {n : Int} (h0 : 0 ≤ n) (h9 : n ≤ 9) : Lib.itoa n = [UInt8.ofNat (48 + n.toNat)] := by
  unfold Lib.itoa
  rw [if_neg (by omega), dec_small (by omega)]

end Go.Proofs.YtaojogaakhidhaaDoor.Wd

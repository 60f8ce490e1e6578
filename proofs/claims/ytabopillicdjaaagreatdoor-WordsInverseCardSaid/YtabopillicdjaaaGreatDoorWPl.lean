/- The plain laws of chapter 1: list expressions read. No program in sight. -/
import Derived.Test.YtabopillicdjaaaGreatDoorWList
import Derived.Test.YtabopillicdjaaaGreatDoorWJoin
import Derived.Lib.Bytealg
import Derived.Lib.Atoi
import GoSem.Op.String
namespace Go.Proofs.YtabopillicdjaaaGreatDoor.Wd

/-- A decimal form without a sign. -/
def natB (l : List UInt8) : Bool := decimalB l && l.head? != some 45
def valN (l : List UInt8) : Nat := natFrom 0 l
theorem natB_parts {l : List UInt8} (h : natB l = true) : l ≠ [] ∧ l.all digB = true ∧ (l.head? ≠ some 48 ∨ l = [48]) := by
  simp only [natB, Bool.and_eq_true, bne_iff_ne] at h
  obtain ⟨h1, h2⟩ := h
  have := decimal_parts h1
  rwa [unsign_other h2] at this
theorem natB_mk {l : List UInt8} (h1 : l ≠ []) (h2 : l.all digB = true) (h3 : l.head? ≠ some 48 ∨ l = [48]) : natB l = true := by
  have h45 : l.head? ≠ some 45 := by
    match l, h1 with
    | c :: r, _ =>
      simp only [List.all_cons, Bool.and_eq_true] at h2
      have := (digB_iff c).1 h2.1
      intro e
      simp only [List.head?_cons, Option.some.injEq] at e
      subst e
      exact absurd this.1 (by decide)
  simp only [natB, Bool.and_eq_true, bne_iff_ne]
  exact ⟨decimal_mk (by rwa [unsign_other h45]) (by rwa [unsign_other h45]) (by rwa [unsign_other h45]), h45⟩
theorem dig_ne {c : UInt8} (h : digB c = true) : c ≠ 45 ∧ c ≠ 44 := by
  have := (digB_iff c).1 h
  constructor <;> (intro e; subst e; exact absurd this.1 (by decide))
theorem natB_no {l : List UInt8} (h : natB l = true) : ∀ x ∈ l, x ≠ 45 ∧ x ≠ 44 := fun x hx => dig_ne (List.all_eq_true.1 (natB_parts h).2.1 x hx)
theorem natB_dec {l : List UInt8} (h : ∀ x ∈ l, x ≠ 45) : natB l = decimalB l := by
  have : (l.head? != some 45) = true := by
    rw [bne_iff_ne]
    intro e
    match l, e with
    | c :: r, e => simp at e; exact h c (by simp) e
  rw [natB, this, Bool.and_true]
theorem natB_val {l : List UInt8} (h : natB l = true) : decimalB l = true ∧ decVal l = (valN l : Int) ∧ Lib.itoa (valN l) = l := by
  simp only [natB, Bool.and_eq_true, bne_iff_ne] at h
  obtain ⟨h1, h2⟩ := h
  have hv : decVal l = (valN l : Int) := by unfold decVal valN; rw [if_neg h2, unsign_other h2]
  exact ⟨h1, hv, by rw [← hv, itoa_of h1]⟩
theorem itoa_natB (n : Nat) : natB (Lib.itoa n) = true ∧ valN (Lib.itoa n) = n := by
  have e : Lib.itoa n = Lib.decDigits n := by unfold Lib.itoa; rw [if_neg (by omega)]; rfl
  rw [e]
  refine ⟨natB_mk (dec_ne _) (dec_all _) ?_, dec_val n⟩
  by_cases h0 : n = 0
  · subst h0; exact .inr dec_zero
  · exact .inl (dec_head _ h0)

/-! Comparing. -/
def lessB (a b : List UInt8) : Bool := if a.length ≠ b.length then decide (a.length < b.length) else Op.bytesLess a b
theorem nat_lt_pow : ∀ (l : List UInt8), l.all digB = true → natFrom 0 l < 10 ^ l.length := by
  intro l
  generalize hk : l.length = k
  induction k generalizing l with
  | zero => intro _; rw [List.length_eq_zero_iff.1 hk]; simp [natFrom]
  | succ k ih =>
    intro h
    have hn : l ≠ [] := by intro e; subst e; cases hk
    obtain ⟨m, c, rfl⟩ : ∃ m c, l = m ++ [c] := ⟨l.dropLast, l.getLast hn, (List.dropLast_concat_getLast hn).symm⟩
    simp only [List.all_append, List.all_cons, List.all_nil, Bool.and_true, Bool.and_eq_true] at h
    have hd := (digB_iff c).1 h.2
    have := ih m (by simpa using hk) h.1
    rw [natFrom_snoc, Nat.pow_succ]
    omega
theorem nat_from_add : ∀ (l : List UInt8) (a : Nat), natFrom a l = a * 10 ^ l.length + natFrom 0 l
  | [], a => by simp [natFrom]
  | c :: l, a => by
    rw [natFrom_cons, natFrom_cons, nat_from_add l (a * 10 + (c.toNat - 48)), nat_from_add l (0 * 10 + (c.toNat - 48)), List.length_cons, Nat.pow_succ, Nat.add_mul, Nat.zero_mul, Nat.zero_add]
    rw [Nat.mul_assoc, Nat.mul_comm 10 (10 ^ l.length), Nat.add_assoc]
theorem nat_ge_pow {c : UInt8} {l : List UInt8} (hc : digB c = true) (h0 : c ≠ 48) : 10 ^ l.length ≤ natFrom 0 (c :: l) := by
  have hd := (digB_iff c).1 hc
  have : c.toNat ≠ 48 := fun e => h0 (UInt8.toNat_inj.1 e)
  rw [natFrom_cons, nat_from_add]
  have h1 : 1 ≤ 0 * 10 + (c.toNat - 48) := by omega
  have := Nat.mul_le_mul_right (10 ^ l.length) h1
  omega
theorem bytes_val : ∀ (a b : List UInt8), a.length = b.length → a.all digB = true → b.all digB = true → Op.bytesLess a b = decide (natFrom 0 a < natFrom 0 b)
  | [], [], _, _, _ => rfl
  | c :: a, d :: b, hl, ha, hb => by
    simp only [List.all_cons, Bool.and_eq_true] at ha hb
    simp only [List.length_cons, Nat.add_right_cancel_iff] at hl
    have ih := bytes_val a b hl ha.2 hb.2
    have hc := (digB_iff c).1 ha.1
    have hd := (digB_iff d).1 hb.1
    have pa := nat_lt_pow a ha.2
    have pb := nat_lt_pow b hb.2
    rw [Op.bytesLess, ih, natFrom_cons, natFrom_cons, nat_from_add a (0 * 10 + (c.toNat - 48)), nat_from_add b (0 * 10 + (d.toNat - 48)), hl]
    rw [hl] at pa
    generalize 10 ^ b.length = p at pa pb ⊢
    generalize natFrom 0 a = x at pa ⊢
    generalize natFrom 0 b = y at pb ⊢
    rw [Bool.eq_iff_iff]
    simp only [Bool.or_eq_true, Bool.and_eq_true, decide_eq_true_eq, beq_iff_eq, UInt8.lt_iff_toNat_lt, ← UInt8.toNat_inj]
    constructor
    · rintro (h | ⟨h, h2⟩)
      · have := Nat.mul_le_mul_right p (show (0 * 10 + (c.toNat - 48)) + 1 ≤ 0 * 10 + (d.toNat - 48) by omega)
        rw [Nat.add_mul, Nat.one_mul] at this
        omega
      · rw [h]; omega
    · intro h
      rcases Nat.lt_trichotomy c.toNat d.toNat with h1 | h1 | h1
      · exact .inl h1
      · right
        refine ⟨h1, ?_⟩
        rw [h1] at h; omega
      · exfalso
        have := Nat.mul_le_mul_right p (show (0 * 10 + (d.toNat - 48)) + 1 ≤ 0 * 10 + (c.toNat - 48) by omega)
        rw [Nat.add_mul, Nat.one_mul] at this
        omega
theorem len_val {a b : List UInt8} (ha : natB a = true) (hb : natB b = true) (h : a.length < b.length) : valN a < valN b := by
  obtain ⟨a1, a2, _⟩ := natB_parts ha
  obtain ⟨b1, b2, b3⟩ := natB_parts hb
  match b, h, b2, b3 with
  | d :: b, h, b2, b3 =>
    simp only [List.all_cons, Bool.and_eq_true] at b2
    have hal : 0 < a.length := List.length_pos_iff.2 a1
    simp only [List.length_cons] at h
    have h48 : d ≠ 48 := by
      rcases b3 with h3 | h3
      · simpa using h3
      · simp only [List.cons.injEq] at h3
        rw [h3.2, List.length_nil] at h
        omega
    have := nat_ge_pow (l := b) b2.1 h48
    have p := nat_lt_pow a a2
    have := Nat.pow_le_pow_right (n := 10) (by decide) (show a.length ≤ b.length by omega)
    unfold valN
    omega
theorem less_val {a b : List UInt8} (ha : natB a = true) (hb : natB b = true) : lessB a b = decide (valN a < valN b) := by
  unfold lessB
  by_cases hl : a.length = b.length
  · rw [if_neg (by simpa using hl), bytes_val a b hl (natB_parts ha).2.1 (natB_parts hb).2.1]; rfl
  · rw [if_pos hl]
    rcases Nat.lt_or_ge a.length b.length with h | h
    · rw [decide_eq_true h, decide_eq_true (len_val ha hb h)]
    · have := len_val hb ha (by omega)
      rw [decide_eq_false (by omega), decide_eq_false (by omega)]
/-- What compare returns. -/
def cmpI (a b : List UInt8) : Int := if a.length ≠ b.length then (a.length : Int) - b.length else Lib.compareBytes a b
theorem cmp_bytes : ∀ (a b : List UInt8), a.length = b.length → (Lib.compareBytes a b < 0 ↔ Op.bytesLess a b = true) ∧ (0 < Lib.compareBytes a b ↔ Op.bytesLess b a = true)
  | [], [], _ => by simp [Lib.compareBytes, Op.bytesLess]
  | c :: a, d :: b, hl => by
    have ih := cmp_bytes a b (by simpa using hl)
    simp only [Lib.compareBytes, Op.bytesLess, Bool.or_eq_true, Bool.and_eq_true, decide_eq_true_eq, beq_iff_eq]
    by_cases h1 : c < d
    · have h2 : ¬ d < c := by rw [UInt8.lt_iff_toNat_lt] at h1 ⊢; omega
      have h3 : d ≠ c := by intro e; subst e; exact h2 h1
      simp [h1, h2, h3]
    · by_cases h2 : d < c
      · have h3 : c ≠ d := by intro e; subst e; exact h1 h2
        simp [h1, h2, h3]
      · have h3 : c = d := by rw [UInt8.lt_iff_toNat_lt] at h1 h2; exact UInt8.toNat_inj.1 (by omega)
        subst h3
        simp only [h1, if_false, true_and, false_or]
        exact ih
theorem cmp_lt {a b : List UInt8} (ha : natB a = true) (hb : natB b = true) : cmpI a b < 0 ↔ valN a < valN b := by
  unfold cmpI
  by_cases hl : a.length = b.length
  · rw [if_neg (by simpa using hl), (cmp_bytes a b hl).1, bytes_val a b hl (natB_parts ha).2.1 (natB_parts hb).2.1, decide_eq_true_eq]; rfl
  · rw [if_pos hl]
    rcases Nat.lt_or_ge a.length b.length with h | h
    · have := len_val ha hb h; omega
    · have := len_val hb ha (by omega); omega
theorem cmp_gt {a b : List UInt8} (ha : natB a = true) (hb : natB b = true) : 0 < cmpI a b ↔ valN b < valN a := by
  unfold cmpI
  by_cases hl : a.length = b.length
  · rw [if_neg (by simpa using hl), (cmp_bytes a b hl).2, bytes_val b a hl.symm (natB_parts hb).2.1 (natB_parts ha).2.1, decide_eq_true_eq]; rfl
  · rw [if_pos hl]
    rcases Nat.lt_or_ge a.length b.length with h | h
    · have := len_val ha hb h; omega
    · have := len_val hb ha (by omega); omega

/-! The next integer. -/
theorem nat_nines (n a : Nat) : natFrom a (List.replicate n 57) + 1 = (a + 1) * 10 ^ n := by
  induction n generalizing a with
  | zero => simp [natFrom]
  | succ n ih =>
    rw [List.replicate_succ, natFrom_cons, ih, Nat.pow_succ]
    have : (57 : UInt8).toNat - 48 = 9 := rfl
    rw [this, show a * 10 + 9 + 1 = (a + 1) * 10 by omega, Nat.mul_assoc, Nat.mul_comm 10 (10 ^ n)]
theorem nat_zeros (n a : Nat) : natFrom a (List.replicate n 48) = a * 10 ^ n := by
  induction n generalizing a with
  | zero => simp [natFrom]
  | succ n ih =>
    rw [List.replicate_succ, natFrom_cons, ih, Nat.pow_succ]
    have : (48 : UInt8).toNat - 48 = 0 := rfl
    rw [this, Nat.add_zero, Nat.mul_assoc, Nat.mul_comm 10 (10 ^ n)]
theorem dig_rep (n : Nat) (c : UInt8) (h : digB c = true) : (List.replicate n c).all digB = true := by
  rw [List.all_eq_true]; intro x hx; rw [(List.mem_replicate.1 hx).2]; exact h
theorem next_nines (n : Nat) : natB (49 :: List.replicate n 48) = true ∧ valN (49 :: List.replicate n 48) = valN (List.replicate n 57) + 1 := by
  refine ⟨natB_mk (by simp) ?_ (.inl (by simp)), ?_⟩
  · simp only [List.all_cons, Bool.and_eq_true]; exact ⟨rfl, dig_rep n 48 rfl⟩
  · unfold valN
    rw [nat_nines, natFrom_cons, nat_zeros]
    rfl
theorem next_digit {p : List UInt8} {c : UInt8} {m : Nat} (h : natB (p ++ c :: List.replicate m 57) = true) (hc : c ≠ 57) :
    natB (p ++ (c + 1) :: List.replicate m 48) = true ∧ valN (p ++ (c + 1) :: List.replicate m 48) = valN (p ++ c :: List.replicate m 57) + 1 := by
  obtain ⟨h1, h2, h3⟩ := natB_parts h
  simp only [List.all_append, List.all_cons, Bool.and_eq_true] at h2
  have hd := (digB_iff c).1 h2.2.1
  have hne : c.toNat ≠ 57 := fun e => hc (UInt8.toNat_inj.1 e)
  have hs : (c + 1).toNat = c.toNat + 1 := by
    rw [UInt8.toNat_add]
    have : (1 : UInt8).toNat = 1 := rfl
    rw [this]; omega
  refine ⟨natB_mk (by simp) ?_ ?_, ?_⟩
  · simp only [List.all_append, List.all_cons, Bool.and_eq_true]
    exact ⟨h2.1, (digB_iff _).2 (by omega), dig_rep m 48 rfl⟩
  · match p, h3 with
    | [], h3 =>
      refine .inl ?_
      simp only [List.nil_append, List.head?_cons, ne_eq, Option.some.injEq]
      intro e
      have := congrArg UInt8.toNat e
      rw [hs] at this
      have : (48 : UInt8).toNat = 48 := rfl
      omega
    | a :: p, h3 =>
      rcases h3 with h3 | h3
      · exact .inl (by simpa using h3)
      · simp at h3
  · unfold valN
    rw [natFrom_app, natFrom_app, natFrom_cons, natFrom_cons, nat_zeros, nat_nines, hs]
    congr 1
    omega
theorem nines_or (a : List UInt8) : (∃ n, a = List.replicate n 57) ∨ ∃ p c m, a = p ++ c :: List.replicate m 57 ∧ c ≠ 57 := by
  generalize hk : a.length = k
  induction k generalizing a with
  | zero => exact .inl ⟨0, List.length_eq_zero_iff.1 hk⟩
  | succ k ih =>
    have hn : a ≠ [] := by intro e; subst e; cases hk
    obtain ⟨q, c, rfl⟩ : ∃ m c, a = m ++ [c] := ⟨a.dropLast, a.getLast hn, (List.dropLast_concat_getLast hn).symm⟩
    by_cases hc : c = 57
    · subst hc
      rcases ih q (by simpa using hk) with ⟨n, rfl⟩ | ⟨p, d, m, rfl, hd⟩
      · exact .inl ⟨n + 1, by rw [List.replicate_succ']⟩
      · exact .inr ⟨p, d, m + 1, by rw [List.replicate_succ']; simp, hd⟩
    · exact .inr ⟨q, c, 0, by simp, hc⟩
end Go.Proofs.YtabopillicdjaaaGreatDoor.Wd

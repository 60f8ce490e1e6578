/- The plain laws of chapter 1: quoted forms. No program in sight. -/
namespace Go.Proofs.YtaojogaakhidhaaDoor.Wd

/-- A byte that stands for itself between quotes. -/
def plainB (c : UInt8) : Bool := 32 ≤ c && c ≤ 126 && c != 34 && c != 92
def hexB (n : UInt8) : UInt8 := if n < 10 then 48 + n else 87 + n
/-- The letter of an escape of its own, or 0. -/
def letB (c : UInt8) : UInt8 := if c == 34 then 34 else if c == 92 then 92 else if c == 10 then 110 else if c == 13 then 114 else if c == 9 then 116 else 0
/-- The form of a byte between quotes. -/
def escB (c : UInt8) : List UInt8 := if plainB c then [c] else if letB c != 0 then [92, letB c] else [92, 120, hexB (c / 16), hexB (c % 16)]
def quoteL (s : List UInt8) : List UInt8 := 34 :: (s.flatMap escB ++ [34])
def unhexB (c : UInt8) : Option UInt8 := if 48 ≤ c && c ≤ 57 then some (c - 48) else if 97 ≤ c && c ≤ 102 then some (c - 87) else none
/-- The byte whose form stands at the beginning, and how long that is. -/
def decB : List UInt8 → Option (UInt8 × Nat)
  | [] => none
  | c :: r => if plainB c then some (c, 1) else if c != 92 then none else
    match r with
    | [] => none
    | d :: r2 => if d == 34 then some (34, 2) else if d == 92 then some (92, 2) else if d == 110 then some (10, 2) else if d == 114 then some (13, 2) else if d == 116 then some (9, 2) else
      if d != 120 then none else
      match r2 with
      | h :: l :: _ => match unhexB h, unhexB l with
        | some a, some b => if plainB (a * 16 + b) || letB (a * 16 + b) != 0 then none else some (a * 16 + b, 4)
        | _, _ => none
      | _ => none

theorem esc_len_pos (c : UInt8) : 0 < (escB c).length := by unfold escB; split; simp; split <;> simp
theorem all256 {p : UInt8 → Bool} (h : (List.range 256).all (fun n => p (UInt8.ofNat n)) = true) (c : UInt8) : p c = true := by
  have := List.all_eq_true.1 h c.toNat (List.mem_range.2 c.toNat_lt)
  simpa using this
theorem let_cases (c : UInt8) (h : letB c ≠ 0) : c = 34 ∨ c = 92 ∨ c = 10 ∨ c = 13 ∨ c = 9 := by
  unfold letB at h
  by_cases h1 : c = 34
  · exact .inl h1
  by_cases h2 : c = 92
  · exact .inr (.inl h2)
  by_cases h3 : c = 10
  · exact .inr (.inr (.inl h3))
  by_cases h4 : c = 13
  · exact .inr (.inr (.inr (.inl h4)))
  by_cases h5 : c = 9
  · exact .inr (.inr (.inr (.inr h5)))
  simp [h1, h2, h3, h4, h5] at h
theorem hex_hi (c : UInt8) : unhexB (hexB (c / 16)) = some (c / 16) := by
  have := all256 (p := fun c => unhexB (hexB (c / 16)) == some (c / 16)) (by decide +kernel) c
  simpa using this
theorem hex_lo (c : UInt8) : unhexB (hexB (c % 16)) = some (c % 16) := by
  have := all256 (p := fun c => unhexB (hexB (c % 16)) == some (c % 16)) (by decide +kernel) c
  simpa using this
theorem hex_both (c : UInt8) : c / 16 * 16 + c % 16 = c := by
  have := all256 (p := fun c => c / 16 * 16 + c % 16 == c) (by decide +kernel) c
  simpa using this
/-- What was written is read. -/
theorem dec_esc (c : UInt8) (t : List UInt8) : decB (escB c ++ t) = some (c, (escB c).length) := by
  unfold escB
  by_cases hp : plainB c = true
  · rw [if_pos hp]
    simp [decB, hp]
  · rw [if_neg hp]
    by_cases hl : letB c = 0
    · have hp' : plainB c = false := by simpa using hp
      simp [hl, decB, hex_hi, hex_lo, hex_both, hp', show plainB 92 = false from rfl]
    · rcases let_cases c hl with rfl | rfl | rfl | rfl | rfl <;> rfl
theorem unhex_inv (h a : UInt8) (e : unhexB h = some a) : a < 16 ∧ hexB a = h := by
  have := all256 (p := fun h => match unhexB h with | none => true | some a => decide (a < 16) && hexB a == h) (by decide +kernel) h
  rw [e] at this
  simpa using this
theorem nib : (List.range 16).all (fun a => (List.range 16).all fun b => (UInt8.ofNat a * 16 + UInt8.ofNat b) / 16 == UInt8.ofNat a && (UInt8.ofNat a * 16 + UInt8.ofNat b) % 16 == UInt8.ofNat b) = true := by decide +kernel
theorem nib_of (a b : UInt8) (ha : a < 16) (hb : b < 16) : (a * 16 + b) / 16 = a ∧ (a * 16 + b) % 16 = b := by
  have h1 := List.all_eq_true.1 nib a.toNat (List.mem_range.2 (by simpa [UInt8.lt_iff_toNat_lt] using ha))
  have h2 := List.all_eq_true.1 h1 b.toNat (List.mem_range.2 (by simpa [UInt8.lt_iff_toNat_lt] using hb))
  simpa using h2
/-- What is read was written. -/
theorem esc_dec (l : List UInt8) (c : UInt8) (k : Nat) (h : decB l = some (c, k)) : ∃ t, l = escB c ++ t ∧ k = (escB c).length := by
  unfold decB at h
  match l, h with
  | x :: r, h =>
    simp only at h
    by_cases hp : plainB x = true
    · rw [if_pos hp] at h
      simp only [Option.some.injEq, Prod.mk.injEq] at h
      obtain ⟨rfl, rfl⟩ := h
      exact ⟨r, by simp [escB, hp], by simp [escB, hp]⟩
    · rw [if_neg hp] at h
      by_cases hx : x = 92
      · subst hx
        simp only [bne_self_eq_false, Bool.false_eq_true, if_false] at h
        match r, h with
        | d :: r2, h =>
          simp only at h
          by_cases d1 : d = 34
          · subst d1; simp at h; obtain ⟨rfl, rfl⟩ := h; exact ⟨r2, rfl, rfl⟩
          by_cases d2 : d = 92
          · subst d2; simp at h; obtain ⟨rfl, rfl⟩ := h; exact ⟨r2, rfl, rfl⟩
          by_cases d3 : d = 110
          · subst d3; simp at h; obtain ⟨rfl, rfl⟩ := h; exact ⟨r2, rfl, rfl⟩
          by_cases d4 : d = 114
          · subst d4; simp at h; obtain ⟨rfl, rfl⟩ := h; exact ⟨r2, rfl, rfl⟩
          by_cases d5 : d = 116
          · subst d5; simp at h; obtain ⟨rfl, rfl⟩ := h; exact ⟨r2, rfl, rfl⟩
          by_cases d6 : d = 120
          · subst d6
            simp at h
            match r2, h with
            | hh :: ll :: r3, h =>
              simp only at h
              cases e1 : unhexB hh with
              | none => rw [e1] at h; simp at h
              | some a =>
                cases e2 : unhexB ll with
                | none => rw [e1, e2] at h; simp at h
                | some b =>
                  rw [e1, e2] at h
                  simp only at h
                  obtain ⟨ha, ha'⟩ := unhex_inv _ _ e1
                  obtain ⟨hb, hb'⟩ := unhex_inv _ _ e2
                  obtain ⟨n1, n2⟩ := nib_of a b ha hb
                  split at h
                  · cases h
                  · rename_i hn
                    simp only [Option.some.injEq, Prod.mk.injEq] at h
                    obtain ⟨rfl, rfl⟩ := h
                    simp only [not_or, Bool.not_eq_true] at hn
                    refine ⟨r3, ?_, ?_⟩ <;> simp [escB, hn.1, hn.2, n1, n2, ha', hb'] <;> simpa using hn.2
          · simp [d1, d2, d3, d4, d5, d6] at h
      · simp [hx] at h

end Go.Proofs.YtaojogaakhidhaaDoor.Wd

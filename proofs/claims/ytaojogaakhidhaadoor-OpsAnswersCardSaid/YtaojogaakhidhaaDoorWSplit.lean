/- The plain laws of chapter 1: quoted strings and lines of fields. No program in sight. -/
import Derived.Test.YtaojogaakhidhaaDoorWPlain
namespace Go.Proofs.YtaojogaakhidhaaDoor.Wd

theorem dec_len {l : List UInt8} {c : UInt8} {k : Nat} (h : decB l = some (c, k)) : 1 ≤ k ∧ k ≤ l.length := by
  obtain ⟨t, rfl, rfl⟩ := esc_dec l c k h
  have := esc_len_pos c
  simp; omega

/-- What stands behind an opening quote: the string, and how many bytes are read, the closing quote too. -/
def uqF : Nat → List UInt8 → Option (List UInt8 × Nat)
  | 0, _ => none
  | f + 1, l => if l.head? = some 34 then some ([], 1) else match decB l with
    | none => none
    | some (x, k) => (uqF f (l.drop k)).map fun p => (x :: p.1, k + p.2)
def uq (l : List UInt8) : Option (List UInt8 × Nat) := uqF (l.length + 1) l
theorem uqF_same : ∀ (f g : Nat) (l : List UInt8), l.length < f → l.length < g → uqF f l = uqF g l
  | 0, _, l, h, _ => absurd h (Nat.not_lt_zero _)
  | _, 0, l, _, h => absurd h (Nat.not_lt_zero _)
  | f + 1, g + 1, l, hf, hg => by
    unfold uqF
    split
    · rfl
    · cases hd : decB l with
      | none => rfl
      | some p =>
        obtain ⟨x, k⟩ := p
        have := dec_len hd
        simp only
        rw [uqF_same f g (l.drop k) (by simp; omega) (by simp; omega)]
theorem uq_end {l : List UInt8} (h : l.head? = some 34) : uq l = some ([], 1) := by unfold uq uqF; rw [if_pos h]
theorem uq_none {l : List UInt8} (h : l.head? ≠ some 34) (hd : decB l = none) : uq l = none := by unfold uq uqF; rw [if_neg h, hd]
theorem uq_step {l : List UInt8} {x : UInt8} {k : Nat} (h : l.head? ≠ some 34) (hd : decB l = some (x, k)) : uq l = (uq (l.drop k)).map fun p => (x :: p.1, k + p.2) := by
  have := dec_len hd
  conv => lhs; unfold uq uqF
  rw [if_neg h, hd]
  simp only
  unfold uq
  rw [uqF_same l.length ((l.drop k).length + 1) (l.drop k) (by simp; omega) (by omega)]
theorem dec_quote (r : List UInt8) : decB (34 :: r) = none := by simp [decB, plainB]
theorem esc_head (c : UInt8) (t : List UInt8) : (escB c ++ t).head? ≠ some 34 := by
  unfold escB
  by_cases hp : plainB c = true
  · rw [if_pos hp]
    intro e
    simp only [List.singleton_append, List.head?_cons, Option.some.injEq] at e
    subst e
    simp [plainB] at hp
  · rw [if_neg hp]
    split <;> simp
theorem uq_quote : ∀ (s t : List UInt8), uq (s.flatMap escB ++ 34 :: t) = some (s, (s.flatMap escB).length + 1)
  | [], t => uq_end rfl
  | c :: s, t => by
    rw [List.flatMap_cons, List.append_assoc, uq_step (esc_head c _) (dec_esc c _), List.drop_left, uq_quote s t]
    simp; omega
theorem uqF_inv : ∀ (f : Nat) (l s : List UInt8) (n : Nat), uqF f l = some (s, n) → ∃ t, l = s.flatMap escB ++ 34 :: t ∧ n = (s.flatMap escB).length + 1
  | 0, _, _, _, h => by cases h
  | f + 1, l, s, n, h => by
    unfold uqF at h
    by_cases hq : l.head? = some 34
    · rw [if_pos hq] at h
      simp only [Option.some.injEq, Prod.mk.injEq] at h
      obtain ⟨rfl, rfl⟩ := h
      match l, hq with
      | c :: r, hq =>
        obtain rfl : c = 34 := by simpa using hq
        exact ⟨r, rfl, rfl⟩
    · rw [if_neg hq] at h
      cases hd : decB l with
      | none => rw [hd] at h; cases h
      | some p =>
        obtain ⟨x, k⟩ := p
        rw [hd] at h
        simp only [Option.map_eq_some_iff] at h
        obtain ⟨⟨s', n'⟩, h1, h2⟩ := h
        simp only [Prod.mk.injEq] at h2
        obtain ⟨rfl, rfl⟩ := h2
        obtain ⟨t, e1, e2⟩ := uqF_inv f _ s' n' h1
        obtain ⟨t2, e3, e4⟩ := esc_dec l x k hd
        subst e3 e4
        rw [List.drop_left] at e1
        subst e1
        refine ⟨t, by simp, ?_⟩
        rw [e2]; simp; omega
theorem uq_inv {l s : List UInt8} {n : Nat} (h : uq l = some (s, n)) : ∃ t, l = s.flatMap escB ++ 34 :: t ∧ n = (s.flatMap escB).length + 1 := uqF_inv _ _ _ _ h

/-- The quoted form at the beginning of a string: the string that it stands for, and its length. -/
def unq (l : List UInt8) : Option (List UInt8 × Nat) := if l.head? = some 34 then (uq l.tail).map fun p => (p.1, p.2 + 1) else none
theorem quote_len (s : List UInt8) : (quoteL s).length = (s.flatMap escB).length + 2 := by simp [quoteL]
theorem unq_quote (s t : List UInt8) : unq (quoteL s ++ t) = some (s, (quoteL s).length) := by
  have e : quoteL s ++ t = 34 :: (s.flatMap escB ++ 34 :: t) := by simp [quoteL]
  rw [e, unq, if_pos (by rfl), List.tail_cons, uq_quote, quote_len]
  rfl
theorem unq_inv {l s : List UInt8} {n : Nat} (h : unq l = some (s, n)) : ∃ t, l = quoteL s ++ t ∧ n = (quoteL s).length := by
  unfold unq at h
  split at h
  · rename_i hq
    match l, hq with
    | c :: r, hq =>
      obtain rfl : c = 34 := by simpa using hq
      rw [List.tail_cons, Option.map_eq_some_iff] at h
      obtain ⟨⟨s', n'⟩, h1, h2⟩ := h
      simp only [Prod.mk.injEq] at h2
      obtain ⟨rfl, rfl⟩ := h2
      obtain ⟨t, rfl, rfl⟩ := uq_inv h1
      exact ⟨t, by simp [quoteL], by rw [quote_len]⟩
  · cases h
theorem unq_pos {l s : List UInt8} {n : Nat} (h : unq l = some (s, n)) : 2 ≤ n ∧ n ≤ l.length := by
  obtain ⟨t, rfl, rfl⟩ := unq_inv h
  rw [quote_len]; simp [quote_len]
def unqS (l : List UInt8) : List UInt8 := match unq l with | some (s, _) => s | none => []
def unqN (l : List UInt8) : Nat := match unq l with | some (_, n) => n | none => 0
/-- What Unquote returns. -/
def unquoteS (l : List UInt8) : List UInt8 := if unqN l ≠ 0 ∧ unqN l = l.length then unqS l else []
def unquoteE (l : List UInt8) : Int := if unqN l ≠ 0 ∧ unqN l = l.length then 0 else 6
theorem unqN_some {l s : List UInt8} {n : Nat} (h : unq l = some (s, n)) : unqN l = n ∧ unqS l = s := by simp [unqN, unqS, h]
theorem unqN_none {l : List UInt8} (h : unq l = none) : unqN l = 0 ∧ unqS l = [] := by simp [unqN, unqS, h]
theorem unqN_le (l : List UInt8) : unqN l ≤ l.length := by
  cases h : unq l with
  | none => rw [(unqN_none h).1]; omega
  | some p => rw [(unqN_some (s := p.1) (n := p.2) h).1]; exact (unq_pos (s := p.1) h).2
theorem esc_flat_le (s : List UInt8) : s.length ≤ (s.flatMap escB).length := by
  induction s with
  | nil => simp
  | cons c s ih => have := esc_len_pos c; rw [List.flatMap_cons, List.length_append, List.length_cons]; omega
theorem unqS_le (l : List UInt8) : (unqS l).length ≤ l.length := by
  cases h : unq l with
  | none => rw [(unqN_none h).2]; simp
  | some p =>
    obtain ⟨s, n⟩ := p
    rw [(unqN_some h).2]
    obtain ⟨t, rfl, rfl⟩ := unq_inv h
    have := esc_flat_le s
    rw [List.length_append, quote_len]; omega

/-- Has a string only bytes of a bare field, and one at least? -/
def bareC (c : UInt8) : Bool := plainB c && c != 32
def bareB (l : List UInt8) : Bool := l.all bareC && !l.isEmpty
def word (l : List UInt8) : List UInt8 := l.takeWhile (· != 32)
/-- The field at the beginning of a string, and its length. -/
def fieldAt (l : List UInt8) : Option ((List UInt8 × Bool) × Nat) := match unq l with
  | some (s, n) => some ((s, true), n)
  | none => if bareB (word l) then some ((word l, false), (word l).length) else none
theorem bare_pos {l : List UInt8} (h : bareB l = true) : 0 < l.length := by
  cases l with
  | nil => simp [bareB] at h
  | cons a l => simp
theorem word_le (l : List UInt8) : (word l).length ≤ l.length := (List.takeWhile_sublist _).length_le
theorem field_pos {l : List UInt8} {x : List UInt8 × Bool} {n : Nat} (h : fieldAt l = some (x, n)) : 1 ≤ n ∧ n ≤ l.length := by
  unfold fieldAt at h
  cases hu : unq l with
  | some p =>
    rw [hu] at h
    simp only [Option.some.injEq, Prod.mk.injEq] at h
    have := unq_pos (s := p.1) (n := p.2) hu
    omega
  | none =>
    rw [hu] at h
    simp only at h
    split at h
    · rename_i hb
      simp only [Option.some.injEq, Prod.mk.injEq] at h
      have := bare_pos hb
      have := word_le l
      omega
    · cases h

/-- The fields of a line. -/
def splF : Nat → List UInt8 → Option (List (List UInt8 × Bool))
  | 0, _ => none
  | f + 1, l => match fieldAt l with
    | none => none
    | some (x, n) => if l.drop n = [] then some [x] else if (l.drop n).head? = some 32 then (splF f (l.drop (n + 1))).map (x :: ·) else none
def spl (l : List UInt8) : Option (List (List UInt8 × Bool)) := splF (l.length + 1) l
theorem splF_same : ∀ (f g : Nat) (l : List UInt8), l.length < f → l.length < g → splF f l = splF g l
  | 0, _, l, h, _ => absurd h (Nat.not_lt_zero _)
  | _, 0, l, _, h => absurd h (Nat.not_lt_zero _)
  | f + 1, g + 1, l, hf, hg => by
    unfold splF
    cases hd : fieldAt l with
    | none => rfl
    | some p =>
      obtain ⟨x, n⟩ := p
      have := field_pos hd
      simp only
      by_cases he : l.drop n = []
      · rw [if_pos he, if_pos he]
      · have hl : 0 < (l.drop n).length := List.length_pos_iff.2 he
        rw [List.length_drop] at hl
        rw [if_neg he, if_neg he, splF_same f g (l.drop (n + 1)) (by simp; omega) (by simp; omega)]
theorem spl_no {l : List UInt8} (h : fieldAt l = none) : spl l = none := by unfold spl splF; rw [h]
theorem spl_last {l : List UInt8} {x : List UInt8 × Bool} {n : Nat} (h : fieldAt l = some (x, n)) (he : l.drop n = []) : spl l = some [x] := by
  unfold spl splF; rw [h]; simp only; rw [if_pos he]
theorem spl_bad {l : List UInt8} {x : List UInt8 × Bool} {n : Nat} (h : fieldAt l = some (x, n)) (he : l.drop n ≠ []) (hh : (l.drop n).head? ≠ some 32) : spl l = none := by
  unfold spl splF; rw [h]; simp only; rw [if_neg he, if_neg hh]
theorem spl_more {l : List UInt8} {x : List UInt8 × Bool} {n : Nat} (h : fieldAt l = some (x, n)) (he : l.drop n ≠ []) (hh : (l.drop n).head? = some 32) : spl l = (spl (l.drop (n + 1))).map (x :: ·) := by
  have := field_pos h
  have hl : 0 < (l.drop n).length := List.length_pos_iff.2 he
  rw [List.length_drop] at hl
  conv => lhs; unfold spl splF
  rw [h]; simp only; rw [if_neg he, if_pos hh]
  unfold spl
  rw [splF_same l.length ((l.drop (n + 1)).length + 1) (l.drop (n + 1)) (by simp; omega) (by omega)]

/-- What Split returns. -/
def longF (x : List UInt8 × Bool) : Bool := decide (2000 < x.1.length)
def splitS (l : List UInt8) : List (List UInt8 × Bool) := if 8192 < l.length ∨ l = [] then [] else match spl l with
  | none => []
  | some fs => if fs.any longF = true ∨ 64 < fs.length then [] else fs
def splitE (l : List UInt8) : Int := if 8192 < l.length then 3 else if l = [] then 0 else match spl l with
  | none => 6
  | some fs => if fs.any longF = true ∨ 64 < fs.length then 3 else 0

end Go.Proofs.YtaojogaakhidhaaDoor.Wd

/- The plain laws of chapter 1: lines of fields written and read; texts cut into lines. No program in sight. -/
import Derived.Test.YtaojogaakhidhaaDoorWSplit
import Derived.Lib.Join
import Derived.Lib.SplitLaws
import Derived.Lib.IndexLaws
namespace Go.Proofs.YtaojogaakhidhaaDoor.Wd

def fieldT (x : List UInt8 × Bool) : List UInt8 := if x.2 then quoteL x.1 else x.1
def joinT (fs : List (List UInt8 × Bool)) : List UInt8 := Lib.join (fs.map fieldT) [32]
def okF (x : List UInt8 × Bool) : Bool := x.2 || bareB x.1
/-- What Join returns. -/
def joinE (fs : List (List UInt8 × Bool)) : Int := if 64 < fs.length ∨ fs.any longF = true then 3 else if fs.all okF = false then 6 else if 8192 < (joinT fs).length then 3 else 0
def joinS (fs : List (List UInt8 × Bool)) : List UInt8 := if joinE fs = 0 then joinT fs else []

theorem join_one (x : List UInt8 × Bool) : joinT [x] = fieldT x := by simp [joinT, Lib.join, List.intercalate]
theorem join_cons (x : List UInt8 × Bool) {fs : List (List UInt8 × Bool)} (h : fs ≠ []) : joinT (x :: fs) = fieldT x ++ 32 :: joinT fs := by
  cases fs with
  | nil => exact absurd rfl h
  | cons y fs => simp [joinT, Lib.join, List.intercalate]
theorem join_app : ∀ (l m : List (List UInt8 × Bool)), l ≠ [] → m ≠ [] → joinT (l ++ m) = joinT l ++ 32 :: joinT m
  | [], _, h, _ => absurd rfl h
  | [x], m, _, h => by rw [List.singleton_append, join_cons x h, join_one]
  | x :: y :: l, m, _, h => by
    rw [List.cons_append, join_cons x (by simp), join_app (y :: l) m (by simp) h, join_cons x (fs := y :: l) (by simp)]
    simp
theorem word_app {s t : List UInt8} (hs : s.all bareC = true) (ht : t = [] ∨ t.head? = some 32) : word (s ++ t) = s := by
  induction s with
  | nil =>
    rcases ht with rfl | ht
    · rfl
    · match t, ht with
      | c :: r, ht =>
        obtain rfl : c = 32 := by simpa using ht
        rfl
  | cons c s ih =>
    simp only [List.all_cons, Bool.and_eq_true] at hs
    have hc : (c != 32) = true := by have := hs.1; simp only [bareC, Bool.and_eq_true] at this; exact this.2
    have := ih hs.2
    unfold word at this ⊢
    rw [List.cons_append, List.takeWhile_cons, if_pos hc, this]
theorem bareC_quote {c : UInt8} (h : bareC c = true) : c ≠ 34 := by
  intro e; subst e; simp [bareC, plainB] at h
theorem field_at {x : List UInt8 × Bool} {t : List UInt8} (h : okF x = true) (ht : t = [] ∨ t.head? = some 32) : fieldAt (fieldT x ++ t) = some (x, (fieldT x).length) := by
  obtain ⟨s, q⟩ := x
  cases q with
  | true =>
    show fieldAt (quoteL s ++ t) = some ((s, true), (quoteL s).length)
    unfold fieldAt
    rw [unq_quote]
  | false =>
    show fieldAt (s ++ t) = some ((s, false), s.length)
    have hb : bareB s = true := by simpa [okF] using h
    have hb' := hb
    simp only [bareB, Bool.and_eq_true] at hb'
    have hu : unq (s ++ t) = none := by
      unfold unq
      rw [if_neg]
      match s, hb' with
      | c :: s, hb' =>
        have := bareC_quote (c := c) (by have := hb'.1; simp only [List.all_cons, Bool.and_eq_true] at this; exact this.1)
        simpa using this
    unfold fieldAt
    rw [hu]
    simp only
    rw [word_app hb'.1 ht, if_pos hb]
theorem field_inv {l : List UInt8} {x : List UInt8 × Bool} {n : Nat} (h : fieldAt l = some (x, n)) : okF x = true ∧ l.take n = fieldT x ∧ n = (fieldT x).length := by
  unfold fieldAt at h
  cases hu : unq l with
  | some p =>
    obtain ⟨s, k⟩ := p
    rw [hu] at h
    simp only [Option.some.injEq, Prod.mk.injEq] at h
    obtain ⟨rfl, rfl⟩ := h
    obtain ⟨t, rfl, rfl⟩ := unq_inv hu
    exact ⟨rfl, by simp [fieldT], rfl⟩
  | none =>
    rw [hu] at h
    simp only at h
    split at h
    · rename_i hb
      simp only [Option.some.injEq, Prod.mk.injEq] at h
      obtain ⟨rfl, rfl⟩ := h
      refine ⟨by simpa [okF] using hb, ?_, rfl⟩
      show l.take (word l).length = word l
      exact List.prefix_iff_eq_take.1 (List.takeWhile_prefix _) |>.symm
    · cases h
theorem fieldT_pos {x : List UInt8 × Bool} (h : okF x = true) : 0 < (fieldT x).length := by
  obtain ⟨s, q⟩ := x
  cases q with
  | true => show 0 < (quoteL s).length; rw [quote_len]; omega
  | false => exact bare_pos (show bareB s = true by simpa [okF] using h)

/-- Split of Join. -/
theorem spl_join : ∀ (fs : List (List UInt8 × Bool)), fs ≠ [] → fs.all okF = true → spl (joinT fs) = some fs
  | [], h, _ => absurd rfl h
  | [x], _, h => by
    have hx : okF x = true := by simpa using h
    have hf := field_at (t := []) hx (.inl rfl)
    rw [List.append_nil] at hf
    rw [join_one, spl_last hf (by simp)]
  | x :: y :: fs, _, h => by
    simp only [List.all_cons, Bool.and_eq_true] at h
    rw [join_cons x (fs := y :: fs) (by simp)]
    have hf := field_at (t := 32 :: joinT (y :: fs)) h.1 (.inr rfl)
    rw [spl_more hf (by simp) (by simp)]
    rw [show List.drop ((fieldT x).length + 1) (fieldT x ++ 32 :: joinT (y :: fs)) = joinT (y :: fs) by rw [← List.drop_drop, List.drop_left]; rfl]
    rw [spl_join (y :: fs) (by simp) (by simpa using h.2)]
    rfl
theorem splF_inv : ∀ (f : Nat) (l : List UInt8) (fs : List (List UInt8 × Bool)), splF f l = some fs → joinT fs = l ∧ fs ≠ [] ∧ fs.all okF = true
  | 0, _, _, h => by cases h
  | f + 1, l, fs, h => by
    unfold splF at h
    cases hd : fieldAt l with
    | none => rw [hd] at h; cases h
    | some p =>
      obtain ⟨x, n⟩ := p
      obtain ⟨hx, ht, hn⟩ := field_inv hd
      rw [hd] at h
      simp only at h
      by_cases he : l.drop n = []
      · rw [if_pos he] at h
        simp only [Option.some.injEq] at h
        subst h
        refine ⟨?_, by simp, by simpa using hx⟩
        rw [join_one, ← ht]
        exact List.take_of_length_le (List.drop_eq_nil_iff.1 he)
      · rw [if_neg he] at h
        split at h
        · rename_i hh
          rw [Option.map_eq_some_iff] at h
          obtain ⟨r, h1, rfl⟩ := h
          obtain ⟨e1, e2, e3⟩ := splF_inv f _ r h1
          refine ⟨?_, by simp, by simp only [List.all_cons, Bool.and_eq_true]; exact ⟨hx, e3⟩⟩
          rw [join_cons x e2, e1, ← ht]
          have : l.drop n = 32 :: l.drop (n + 1) := by
            match hl : l.drop n, hh with
            | c :: r', hh =>
              obtain rfl : c = 32 := by simpa using hh
              rw [← List.drop_drop, hl]; rfl
          rw [← this, List.take_append_drop]
        · cases h
/-- Join of Split. -/
theorem spl_inv {l : List UInt8} {fs : List (List UInt8 × Bool)} (h : spl l = some fs) : joinT fs = l ∧ fs ≠ [] ∧ fs.all okF = true := splF_inv _ _ _ h

/-! A string cut at a byte. -/
def partsL (c : UInt8) : List UInt8 → List (List UInt8)
  | [] => [[]]
  | x :: r => if x = c then [] :: partsL c r else match partsL c r with
    | [] => [[x]]
    | p :: ps => (x :: p) :: ps
theorem parts_none {c : UInt8} : ∀ {p : List UInt8}, (∀ x ∈ p, x ≠ c) → partsL c p = [p]
  | [], _ => rfl
  | x :: r, h => by
    rw [partsL, if_neg (h x (by simp)), parts_none (fun y hy => h y (by simp [hy]))]
theorem parts_cut {c : UInt8} : ∀ {p : List UInt8} (r : List UInt8), (∀ x ∈ p, x ≠ c) → partsL c (p ++ c :: r) = p :: partsL c r
  | [], r, _ => by rw [List.nil_append, partsL, if_pos rfl]
  | x :: p, r, h => by
    rw [List.cons_append, partsL, if_neg (h x (by simp)), parts_cut r (fun y hy => h y (by simp [hy]))]
theorem parts_ne (c : UInt8) (l : List UInt8) : partsL c l ≠ [] := by
  cases l with
  | nil => simp [partsL]
  | cons x r => rw [partsL]; split; simp; split <;> simp
theorem parts_len (c : UInt8) : ∀ (l : List UInt8), (partsL c l).length = l.count c + 1
  | [] => rfl
  | x :: r => by
    have ih := parts_len c r
    rw [partsL]
    by_cases h : x = c
    · subst h; simp [ih]
    · rw [if_neg h, List.count_cons_of_ne h]
      split
      · rename_i e; exact absurd e (parts_ne c r)
      · rename_i p ps e; rw [e] at ih; simpa using ih
theorem parts_end (c : UInt8) : ∀ (l : List UInt8), partsL c (l ++ [c]) = partsL c l ++ [[]]
  | [] => by simp [partsL]
  | x :: r => by
    rw [List.cons_append, partsL, parts_end c r, partsL]
    by_cases h : x = c
    · rw [if_pos h, if_pos h]; rfl
    · rw [if_neg h, if_neg h]
      match hp : partsL c r with
      | [] => exact absurd hp (parts_ne c r)
      | p :: ps => rfl
theorem mem_split_at {c : UInt8} {l : List UInt8} {i : Nat} (h : l[i]? = some c) : l = l.take i ++ c :: l.drop (i + 1) := by
  obtain ⟨hi, e⟩ := List.getElem?_eq_some_iff.1 h
  rw [← e, ← List.drop_eq_getElem_cons hi, List.take_append_drop]
theorem take_no {c : UInt8} {l : List UInt8} {i : Nat} (h : ∀ j, j < i → l[j]? ≠ some c) : ∀ x ∈ l.take i, x ≠ c := by
  intro x hx e
  subst e
  obtain ⟨j, hj, e⟩ := List.getElem_of_mem hx
  simp only [List.length_take] at hj
  rw [List.getElem_take] at e
  exact h j (by omega) (List.getElem?_eq_some_iff.2 ⟨by omega, e⟩)
/-- A step of a loop that cuts. -/
theorem parts_step {c : UInt8} {l : List UInt8} {a i : Nat} (ha : a ≤ i) (h : l[i]? = some c) (hno : ∀ j, a ≤ j → j < i → l[j]? ≠ some c) :
    partsL c (l.drop a) = (l.drop a).take (i - a) :: partsL c (l.drop (i + 1)) := by
  have h' : (l.drop a)[i - a]? = some c := by rw [List.getElem?_drop, show a + (i - a) = i by omega]; exact h
  have hn : ∀ x ∈ (l.drop a).take (i - a), x ≠ c := take_no (fun j hj => by rw [List.getElem?_drop]; exact hno _ (by omega) (by omega))
  conv => lhs; rw [mem_split_at h']
  rw [parts_cut _ hn, List.drop_drop, show a + (i - a + 1) = i + 1 by omega]
theorem parts_last {c : UInt8} {l : List UInt8} {a : Nat} (hno : ∀ j, a ≤ j → j < l.length → l[j]? ≠ some c) : partsL c (l.drop a) = [l.drop a] := by
  refine parts_none (fun x hx e => ?_)
  subst e
  obtain ⟨j, hj, e⟩ := List.getElem_of_mem hx
  simp only [List.length_drop] at hj
  rw [List.getElem_drop] at e
  exact hno (a + j) (by omega) (by omega) (List.getElem?_eq_some_iff.2 ⟨by omega, e⟩)
theorem occ_one (l : List UInt8) (c : UInt8) (i : Nat) : Lib.occAt l [c] i = true ↔ l[i]? = some c := by
  unfold Lib.occAt
  rw [← List.head?_drop]
  cases l.drop i with
  | nil => simp
  | cons a r => rw [List.head?_cons, Option.some.injEq]; simp only [List.isPrefixOf, Bool.and_true, beq_iff_eq]; exact eq_comm
/-- strings.Split at one byte. -/
theorem splitK_parts (c : UInt8) : ∀ (k : Nat) (l : List UInt8), Lib.count l [c] = k → Lib.splitK [c] 0 k l = partsL c l
  | 0, l, h => by
    rw [Lib.count_one] at h
    have hn : ∀ x ∈ l, x ≠ c := fun x hx e => by subst e; exact absurd (List.count_pos_iff.2 hx) (by omega)
    rw [parts_none hn]; rfl
  | k + 1, l, h => by
    rcases Lib.index_spec l [c] with ⟨h1, _⟩ | ⟨i, h1, h2, h3, h4⟩
    · rw [Lib.count_miss h1] at h; cases h
    · have hi := (occ_one l c i).1 h3
      have hno : ∀ j, 0 ≤ j → j < i → l[j]? ≠ some c := fun j _ hj e => by
        have := h4 j hj
        rw [(occ_one l c j).2 e] at this
        cases this
      have hc := Lib.count_hit (sub := [c]) (by simp) h1
      rw [h] at hc
      have hp := parts_step (a := 0) (Nat.zero_le i) hi hno
      simp only [List.drop_zero, Nat.sub_zero] at hp
      rw [Lib.splitK, h1, if_neg (by simp only [beq_iff_eq]; omega), hp]
      simp only [Int.toNat_natCast, Nat.add_zero, List.length_singleton]
      rw [splitK_parts c k _ (by simp only [List.length_singleton] at hc; omega)]
theorem split_parts (c : UInt8) (l : List UInt8) : Lib.split l [c] = partsL c l := splitK_parts c _ l rfl

/-- What Lines returns. -/
def linesE (t : List UInt8) : Int := if 1048576 < t.length then 3 else if t = [] then 0 else if t.getLast? ≠ some 10 then 6 else if 5000 < (partsL 10 t.dropLast).length then 3 else 0
def linesS (t : List UInt8) : List (List UInt8) := if linesE t = 0 ∧ t ≠ [] then partsL 10 t.dropLast else []

end Go.Proofs.YtaojogaakhidhaaDoor.Wd

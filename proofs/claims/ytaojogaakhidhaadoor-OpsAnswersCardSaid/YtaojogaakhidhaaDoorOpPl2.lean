/- The plain laws of chapter 28: Parse of Print is the operation, Print of Parse the line. No program in sight. -/
import Derived.Test.YtaojogaakhidhaaDoorOpPl
namespace Go.Proofs.YtaojogaakhidhaaDoor.Sc
open Wd (digB natFrom decimalB decVal intV intE spl splitS splitE joinT fieldT okF bareB bareC plainB longF)

/-- The Value is a number of 64 bits. -/
def WfC (c : OC) : Prop := 0 ≤ c.v ∧ c.v < 18446744073709551616
theorem kcases {k : Int} (h : 1 ≤ k ∧ k ≤ 11) : k = 1 ∨ k = 2 ∨ k = 3 ∨ k = 4 ∨ k = 5 ∨ k = 6 ∨ k = 7 ∨ k = 8 ∨ k = 9 ∨ k = 10 ∨ k = 11 := by omega
theorem kf_in : ∀ j : Nat, j < 12 → ∀ i ∈ kf j, 1 ≤ i ∧ i ≤ 6 := by decide +kernel
theorem kf_nodup : ∀ j : Nat, j < 12 → (kf j).Nodup := by decide +kernel
theorem kw_inj : ∀ i : Nat, i < 12 → ∀ j : Nat, j < 12 → 1 ≤ i → 1 ≤ j → kw i = kw j → i = j := by decide +kernel
theorem kw_bare : ∀ j : Nat, j < 12 → bareB (kw j) = true ∧ (kw j).length ≤ 7 := by decide +kernel
theorem kf_len : ∀ j : Nat, j < 12 → (kf j).length ≤ 3 := by decide +kernel
theorem num_set (c : OC) (i j : Nat) (x : Int) (hi : 1 ≤ i ∧ i ≤ 6) (hj : 1 ≤ j ∧ j ≤ 6) : num (setN c i x) j = if j = i then x else num c j := by
  rcases (show i = 1 ∨ i = 2 ∨ i = 3 ∨ i = 4 ∨ i = 5 ∨ i = 6 by omega) with rfl | rfl | rfl | rfl | rfl | rfl <;> rcases (show j = 1 ∨ j = 2 ∨ j = 3 ∨ j = 4 ∨ j = 5 ∨ j = 6 by omega) with rfl | rfl | rfl | rfl | rfl | rfl <;> simp [num, setN]
theorem k_set (c : OC) (i : Nat) (x : Int) : (setN c i x).k = c.k := by unfold setN; repeat (first | rfl | split)
theorem oc_ext {c d : OC} (hk : c.k = d.k) (h : ∀ i, 1 ≤ i ∧ i ≤ 6 → num c i = num d i) : c = d := by
  have h1 := h 1 (by omega); have h2 := h 2 (by omega); have h3 := h 3 (by omega); have h4 := h 4 (by omega); have h5 := h 5 (by omega); have h6 := h 6 (by omega)
  obtain ⟨_, _, _, _, _, _, _⟩ := c
  obtain ⟨_, _, _, _, _, _, _⟩ := d
  simp only [num] at h1 h2 h3 h4 h5 h6
  simp only at hk
  simp_all

/-! The line is that of bare fields. -/
def bf (l : List (List UInt8)) : List (List UInt8 × Bool) := l.map fun x => (x, false)
theorem join_bare : ∀ (a : List UInt8) (L : List (List UInt8)), joinT (bf (a :: L)) = a ++ L.flatMap fun x => 32 :: x
  | a, [] => by simp [bf, Wd.join_one, fieldT]
  | a, b :: L => by
    have := join_bare b L
    rw [bf, List.map_cons, Wd.join_cons _ (by simp), ← bf, this]
    simp [fieldT]
theorem flat_map (L : List Nat) (f : Nat → List UInt8) : (L.flatMap fun i => 32 :: f i) = (L.map f).flatMap fun x => 32 :: x := by
  induction L with
  | nil => rfl
  | cons i L ih => rw [List.flatMap_cons, List.map_cons, List.flatMap_cons, ih]
theorem line_join (c : OC) : lineT c = joinT (bf (kw c.k :: (kf c.k).map (fieldS c))) := by
  rw [join_bare, lineT, flat_map]
theorem dig_bare {l : List UInt8} (h : l.all digB = true) : l.all bareC = true := by
  rw [List.all_eq_true] at h ⊢
  intro x hx
  have := Wd.all256 (p := fun c => !digB c || bareC c) (by decide +kernel) x
  rw [h x hx] at this
  simpa using this
theorem hexC_bare {l : List UInt8} (h : l.all hexC = true) : l.all bareC = true := by
  rw [List.all_eq_true] at h ⊢
  intro x hx
  have := Wd.all256 (p := fun c => !hexC c || bareC c) (by decide +kernel) x
  rw [h x hx] at this
  simpa using this
theorem itoa_bare (n : Int) : bareB (Lib.itoa n) = true := by
  unfold Lib.itoa
  split
  · have := dig_bare (Wd.dec_all n.natAbs)
    simp only [bareB, List.all_cons, this, Bool.and_true]
    rfl
  · have h1 := dig_bare (Wd.dec_all n.toNat)
    have h2 : (Lib.decDigits n.toNat).isEmpty = false := by rw [List.isEmpty_eq_false_iff]; exact Wd.dec_ne _
    simp only [bareB, h1, h2]
    rfl
theorem hex_bare (n : Nat) : bareB (hexL n) = true := by
  have h1 := hexC_bare (hexL_all n)
  have h2 : (hexL n).isEmpty = false := by rw [List.isEmpty_eq_false_iff]; exact hexL_ne _
  simp only [bareB, h1, h2]
  rfl
theorem fieldS_bare (c : OC) (i : Nat) : bareB (fieldS c i) = true := by
  unfold fieldS
  split
  · exact hex_bare _
  · exact itoa_bare _
theorem dec_long : ∀ (k u : Nat), u < 10 ^ (k + 1) → (Lib.decDigits u).length ≤ k + 1
  | 0, u, h => by rw [Wd.dec_small (by simpa using h)]; simp
  | k + 1, u, h => by
    by_cases h9 : u < 10
    · rw [Wd.dec_small h9]; simp
    · rw [Wd.dec_big h9, List.length_append, List.length_singleton]
      have := dec_long k (u / 10) (by rw [Nat.pow_succ] at h; omega)
      omega
theorem itoa_short {n : Int} (h : inR n = true) : (Lib.itoa n).length ≤ 11 := by
  simp only [inR, decide_eq_true_eq] at h
  unfold Lib.itoa
  split
  · have := dec_long 9 n.natAbs (by omega)
    rw [List.length_cons]; omega
  · have := dec_long 9 n.toNat (by omega)
    omega
theorem fieldS_short {c : OC} {i : Nat} (hw : WfC c) (h : i = 6 ∨ inR (num c i) = true) : (fieldS c i).length ≤ 16 := by
  unfold fieldS
  split
  · refine hexL_len 15 _ ?_
    have := hw.1; have := hw.2
    have e : (16 ^ (15 + 1) : Nat) = 18446744073709551616 := by decide
    omega
  · rename_i h6
    have := itoa_short (h.resolve_left h6)
    omega
theorem chk_parts {c : OC} (h : chkE c = 0) : (1 ≤ c.k ∧ c.k ≤ 11) ∧ (∀ i, 1 ≤ i ∧ i ≤ 6 → i ∉ kf c.k → num c i = 0) ∧ ∀ i ∈ kf c.k, i = 6 ∨ inR (num c i) = true := by
  unfold chkE at h
  split at h
  · rename_i hc
    split at h
    · rename_i hr
      simp only [Bool.and_eq_true, kindOk, decide_eq_true_eq] at hc
      refine ⟨hc.1, fun i hi hn => ?_, fun i hi => ?_⟩
      · have hb := List.all_eq_true.1 hc.2 i (by simp; omega)
        simp only [Bool.or_eq_true, beq_iff_eq] at hb
        rcases hb with hb | hb
        · exact absurd (by simpa using hb) hn
        · exact hb
      · have := List.all_eq_true.1 hr i hi
        simpa using this
    · cases h
  · cases h
theorem chk_mk {c : OC} (h1 : 1 ≤ c.k ∧ c.k ≤ 11) (h2 : ∀ i, 1 ≤ i ∧ i ≤ 6 → i ∉ kf c.k → num c i = 0) (h3 : ∀ i ∈ kf c.k, i = 6 ∨ inR (num c i) = true) : chkE c = 0 := by
  have a : kindOk c = true := by simp only [kindOk, decide_eq_true_eq]; exact h1
  have b : bareOk c = true := by
    unfold bareOk
    rw [List.all_eq_true]
    intro i hi
    by_cases hm : i ∈ kf c.k
    · have : (kf c.k).contains i = true := by simpa using hm
      rw [this]; rfl
    · rw [h2 i (by simp at hi; omega) hm]; simp
  have d : rangeOk c = true := by
    unfold rangeOk
    rw [List.all_eq_true]
    intro i hi
    have := h3 i hi
    simpa using this
  unfold chkE
  rw [a, b, d]; rfl
theorem k_nat {k : Int} (h : 1 ≤ k ∧ k ≤ 11) : ∃ j : Nat, (j : Int) = k ∧ 1 ≤ j ∧ j < 12 := ⟨k.toNat, by omega, by omega, by omega⟩

/-! A line of bare fields is split. -/
theorem any_long_bf (L : List (List UInt8)) (h : ∀ x ∈ L, x.length ≤ 2000) : (bf L).any longF = false := by
  rw [List.any_eq_false]
  intro x hx
  simp only [bf, List.mem_map] at hx
  obtain ⟨y, hy, rfl⟩ := hx
  have := h y hy
  simp only [longF, decide_eq_true_eq]; omega
theorem all_ok_bf (L : List (List UInt8)) (h : ∀ x ∈ L, bareB x = true) : (bf L).all okF = true := by
  rw [List.all_eq_true]
  intro x hx
  simp only [bf, List.mem_map] at hx
  obtain ⟨y, hy, rfl⟩ := hx
  simp [okF, h y hy]
theorem flat_len (L : List (List UInt8)) (h : ∀ x ∈ L, x.length ≤ 16) : (L.flatMap fun x => 32 :: x).length ≤ 17 * L.length := by
  induction L with
  | nil => simp
  | cons x L ih =>
    have h1 := h x (by simp)
    have h2 := ih (fun y hy => h y (by simp [hy]))
    rw [List.flatMap_cons, List.length_append, List.length_cons, List.length_cons]; omega
theorem split_bf (a : List UInt8) (L : List (List UInt8)) (ha : bareB a = true) (hal : a.length ≤ 16) (hL : ∀ x ∈ L, bareB x = true) (hs : ∀ x ∈ L, x.length ≤ 16) (hn : L.length ≤ 60) :
    splitE (joinT (bf (a :: L))) = 0 ∧ splitS (joinT (bf (a :: L))) = bf (a :: L) := by
  have hsp := Wd.spl_join (bf (a :: L)) (by simp [bf]) (all_ok_bf _ (fun x hx => by rcases List.mem_cons.1 hx with rfl | hx; exact ha; exact hL x hx))
  have hlen : (joinT (bf (a :: L))).length ≤ 1100 := by
    rw [join_bare, List.length_append]
    have := flat_len L hs
    omega
  have hne : joinT (bf (a :: L)) ≠ [] := by
    rw [join_bare]
    intro e
    have := congrArg List.length e
    have h0 := Wd.bare_pos ha
    rw [List.length_append, List.length_nil] at this; omega
  have hlong : ¬ ((bf (a :: L)).any longF = true ∨ 64 < (bf (a :: L)).length) := by
    rw [any_long_bf _ (fun x hx => by rcases List.mem_cons.1 hx with rfl | hx; omega; have := hs x hx; omega)]
    simp [bf]; omega
  constructor
  · unfold splitE
    rw [if_neg (by omega), if_neg hne, hsp]
    simp only
    rw [if_neg hlong]
  · unfold splitS
    rw [if_neg (by rintro (h | h); omega; exact hne h), hsp]
    simp only
    rw [if_neg hlong]
theorem line_split {c : OC} (hw : WfC c) (h : chkE c = 0) : splitE (lineT c) = 0 ∧ splitS (lineT c) = bf (kw c.k :: (kf c.k).map (fieldS c)) := by
  obtain ⟨h1, _, h3⟩ := chk_parts h
  obtain ⟨j, hj, j1, j12⟩ := k_nat h1
  rw [line_join]
  obtain ⟨b1, b2⟩ := kw_bare j j12
  have hl := kf_len j j12
  rw [hj] at b1 b2 hl
  refine split_bf _ _ b1 (by omega) (fun x hx => ?_) (fun x hx => ?_) (by rw [List.length_map]; omega)
  · obtain ⟨i, _, rfl⟩ := List.mem_map.1 hx; exact fieldS_bare _ _
  · obtain ⟨i, hi, rfl⟩ := List.mem_map.1 hx; exact fieldS_short hw (h3 i hi)

/-! Which kind. -/
theorem kind_some {fs : List (List UInt8 × Bool)} {j : Nat} (h1 : 1 ≤ j) (h12 : j < 12) (hf : fits j fs = true) : kindOf fs = some j := by
  unfold kindOf
  rw [List.find?_range_eq_some]
  refine ⟨by simp [h1, hf], List.mem_range.2 h12, fun i hi => ?_⟩
  simp only [Bool.not_eq_true', Bool.and_eq_false_iff, decide_eq_false_iff_not]
  by_cases hi1 : 1 ≤ i
  · refine .inr ?_
    rw [← Bool.not_eq_true]
    intro e
    simp only [fits, Bool.and_eq_true, beq_iff_eq] at hf e
    have := hf.2.symm.trans e.2
    simp only [Option.some.injEq, Prod.mk.injEq, and_true] at this
    exact absurd (kw_inj j h12 i (by omega) h1 hi1 this) (by omega)
  · exact .inl hi1
theorem kind_inv {fs : List (List UInt8 × Bool)} {j : Nat} (h : kindOf fs = some j) : 1 ≤ j ∧ j < 12 ∧ fits j fs = true := by
  unfold kindOf at h
  rw [List.find?_range_eq_some] at h
  obtain ⟨h1, h2, _⟩ := h
  simp only [Bool.and_eq_true, decide_eq_true_eq] at h1
  exact ⟨h1.1, List.mem_range.1 h2, h1.2⟩
theorem kind_none {fs : List (List UInt8 × Bool)} (h : ∀ j : Nat, 1 ≤ j → j < 12 → fits j fs = false) : kindOf fs = none := by
  unfold kindOf
  rw [List.find?_eq_none]
  intro j hj
  rw [List.mem_range] at hj
  simp only [Bool.and_eq_true, decide_eq_true_eq, not_and]
  intro h1 e
  rw [h j h1 hj] at e; cases e

/-! The fields read. -/
theorem readE_cons {i : Nat} {is : List Nat} {x : List UInt8 × Bool} {xs : List (List UInt8 × Bool)} (h : readE (i :: is) (x :: xs) = 0) : fldE i x = 0 ∧ readE is xs = 0 := by
  unfold readE at h
  have hf : fldE i x = 0 ∨ fldE i x = 6 ∨ fldE i x = 7 := by
    unfold fldE
    split
    · exact .inr (.inl rfl)
    · split
      · unfold unhexE; split; exact .inr (.inl rfl); split; exact .inr (.inr rfl); exact .inl rfl
      · unfold Wd.intE; split; split; exact .inl rfl; exact .inr (.inr rfl); exact .inr (.inl rfl)
  have hr : ∀ (is : List Nat) (xs : List (List UInt8 × Bool)), readE is xs = 0 ∨ readE is xs = 6 ∨ readE is xs = 7 := by
    intro is
    induction is with
    | nil => intro xs; exact .inl (by unfold readE; rfl)
    | cons i is ih =>
      intro xs
      cases xs with
      | nil => exact .inl (by unfold readE; rfl)
      | cons x xs =>
        unfold readE
        split
        · exact .inr (.inl rfl)
        · split
          · exact .inr (.inl rfl)
          · split
            · exact .inr (.inr rfl)
            · exact .inl rfl
  split at h
  · cases h
  · split at h
    · cases h
    · split at h
      · cases h
      · rename_i h1 h2 h3
        simp only [not_or] at h3
        have := hr is xs
        omega
theorem readE_mk : ∀ (is : List Nat) (xs : List (List UInt8 × Bool)), is.length = xs.length → (∀ (j : Nat) i x, is[j]? = some i → xs[j]? = some x → fldE i x = 0) → readE is xs = 0
  | [], _, _, _ => by unfold readE; rfl
  | i :: is, [], h, _ => by cases h
  | i :: is, x :: xs, h, hf => by
    have h1 := hf 0 i x rfl rfl
    have h2 := readE_mk is xs (by simpa using h) (fun j i x hi hx => hf (j + 1) i x (by simpa using hi) (by simpa using hx))
    unfold readE
    rw [h1, h2]; rfl
theorem readC_k : ∀ (is : List Nat) (xs : List (List UInt8 × Bool)) (c : OC), (readC c is xs).k = c.k
  | [], _, c => by unfold readC; rfl
  | i :: is, [], c => by unfold readC; rfl
  | i :: is, x :: xs, c => by unfold readC; rw [readC_k is xs, k_set]
theorem readC_other : ∀ (is : List Nat) (xs : List (List UInt8 × Bool)) (c : OC) (j : Nat), (∀ i ∈ is, 1 ≤ i ∧ i ≤ 6) → (1 ≤ j ∧ j ≤ 6) → j ∉ is → num (readC c is xs) j = num c j
  | [], _, c, _, _, _, _ => by unfold readC; rfl
  | i :: is, [], c, _, _, _, _ => by unfold readC; rfl
  | i :: is, x :: xs, c, j, hi, hj, hn => by
    unfold readC
    rw [readC_other is xs _ j (fun y hy => hi y (by simp [hy])) hj (fun e => hn (by simp [e])), num_set c i j _ (hi i (by simp)) hj, if_neg (fun e => hn (by simp [e]))]
theorem readC_at : ∀ (is : List Nat) (xs : List (List UInt8 × Bool)) (c : OC), (∀ i ∈ is, 1 ≤ i ∧ i ≤ 6) → is.Nodup → ∀ (j : Nat) i x, is[j]? = some i → xs[j]? = some x → num (readC c is xs) i = fldN i x
  | [], _, _, _, _, j, i, x, h, _ => by simp at h
  | i0 :: is, [], _, _, _, j, i, x, _, h => by simp at h
  | i0 :: is, x0 :: xs, c, hi, hn, 0, i, x, h1, h2 => by
    simp only [List.getElem?_cons_zero, Option.some.injEq] at h1 h2
    subst h1 h2
    rw [List.nodup_cons] at hn
    have hi0 := hi i0 (by simp)
    unfold readC
    rw [readC_other is xs _ i0 (fun y hy => hi y (by simp [hy])) hi0 hn.1, num_set c i0 i0 _ hi0 hi0, if_pos rfl]
  | i0 :: is, x0 :: xs, c, hi, hn, j + 1, i, x, h1, h2 => by
    rw [List.nodup_cons] at hn
    unfold readC
    exact readC_at is xs _ (fun y hy => hi y (by simp [hy])) hn.2 j i x (by simpa using h1) (by simpa using h2)

/-! The theorem. -/
theorem fld_of {c : OC} {i : Nat} (hw : WfC c) (h : i = 6 ∨ inR (num c i) = true) : fldE i (fieldS c i, false) = 0 ∧ fldN i (fieldS c i, false) = num c i := by
  by_cases h6 : i = 6
  · subst h6
    obtain ⟨a, b⟩ := unhex_hex c.v.toNat (by have := hw.1; have := hw.2; omega)
    refine ⟨by simp [fldE, fieldS, a], ?_⟩
    simp only [fldN, fieldS, if_true, b]
    show ((c.v.toNat : Nat) : Int) = num c 6
    have := hw.1
    simp only [num]
    simp; omega
  · have hr := h.resolve_left h6
    simp only [inR, decide_eq_true_eq] at hr
    obtain ⟨a, b⟩ := Wd.itoa_decimal (num c i)
    constructor
    · simp only [fldE, fieldS, if_neg h6, Bool.false_eq_true, if_false]
      unfold Wd.intE
      rw [if_pos a, b, if_pos hr]
    · simp only [fldN, fieldS, if_neg h6]
      unfold Wd.intV
      rw [if_pos ⟨a, by rw [b]; exact hr⟩, b]
theorem fld_inv {i : Nat} {x : List UInt8 × Bool} (h : fldE i x = 0) : x.2 = false ∧ (i = 6 → hexL (fldN i x).toNat = x.1 ∧ 0 ≤ fldN i x ∧ fldN i x < 18446744073709551616) ∧ (i ≠ 6 → Lib.itoa (fldN i x) = x.1 ∧ inR (fldN i x) = true) := by
  unfold fldE at h
  split at h
  · cases h
  · rename_i hq
    refine ⟨by simpa using hq, fun h6 => ?_, fun h6 => ?_⟩
    · rw [if_pos h6] at h
      simp only [fldN, if_pos h6]
      exact hex_unhex h
    · rw [if_neg h6] at h
      simp only [fldN, if_neg h6]
      unfold Wd.intE at h
      split at h
      · rename_i hd
        split at h
        · rename_i hr
          unfold Wd.intV
          rw [if_pos ⟨hd, hr⟩]
          exact ⟨Wd.itoa_of hd, by simpa [inR] using hr⟩
        · cases h
      · cases h
/-- Parse of Print is the operation. -/
theorem parse_print {c : OC} (hw : WfC c) (h : chkE c = 0) : parE (lineT c) = 0 ∧ parC (lineT c) = c := by
  obtain ⟨h1, h2, h3⟩ := chk_parts h
  obtain ⟨s1, s2⟩ := line_split hw h
  obtain ⟨j, hj, j1, j12⟩ := k_nat h1
  have hf : fits j (bf (kw c.k :: (kf c.k).map (fieldS c))) = true := by
    simp only [fits, bf, hj, List.length_map, List.length_cons, List.map_cons, List.head?_cons, beq_self_eq_true, Bool.and_self]
  have hk := kind_some j1 j12 hf
  have htl : (bf (kw c.k :: (kf c.k).map (fieldS c))).tail = (kf c.k).map fun i => (fieldS c i, false) := by simp [bf]
  have hr : readE (kf c.k) ((kf c.k).map fun i => (fieldS c i, false)) = 0 := by
    refine readE_mk _ _ (by simp) (fun n i x hi hx => ?_)
    rw [List.getElem?_map, hi] at hx
    simp only [Option.map_some, Option.some.injEq] at hx
    subst hx
    exact (fld_of hw (h3 i (List.mem_of_getElem? hi))).1
  have e : parE (lineT c) = 0 := by
    unfold parE
    rw [if_neg (by rw [s1]; decide), s2, hk]
    simp only
    rw [htl, hj]; exact hr
  refine ⟨e, ?_⟩
  unfold parC
  rw [if_pos e, s2, hk]
  simp only
  rw [htl, hj]
  have hin : ∀ i ∈ kf c.k, 1 ≤ i ∧ i ≤ 6 := by rw [← hj]; exact kf_in j j12
  have hnd : (kf c.k).Nodup := by rw [← hj]; exact kf_nodup j j12
  refine oc_ext ?_ (fun i hi => ?_)
  · rw [readC_k]; rfl
  · by_cases hm : i ∈ kf c.k
    · obtain ⟨n, hn, e⟩ := List.getElem_of_mem hm
      have hg : (kf c.k)[n]? = some i := by rw [List.getElem?_eq_getElem hn, e]
      rw [readC_at _ _ _ hin hnd n i (fieldS c i, false) hg (by rw [List.getElem?_map, hg]; rfl)]
      exact (fld_of hw (h3 i hm)).2
    · rw [readC_other _ _ _ i hin hi hm, h2 i hi hm]
      rcases (show i = 1 ∨ i = 2 ∨ i = 3 ∨ i = 4 ∨ i = 5 ∨ i = 6 by omega) with rfl | rfl | rfl | rfl | rfl | rfl <;> rfl
theorem split_zero {l : List UInt8} (h : splitE l = 0) (hne : l ≠ []) : spl l = some (splitS l) := by
  unfold splitE at h
  split at h
  · cases h
  · rename_i h1
    cases hs : spl l with
    | none => rw [hs] at h; cases h
    | some fs =>
      rw [hs] at h
      simp only at h
      split at h
      · cases h
      · rename_i h2
        unfold splitS
        rw [if_neg (by rintro (h | h); exact h1 h; exact hne h), hs]
        simp only
        rw [if_neg h2]
theorem map_eq_of {α β : Type} {f : α → β} : ∀ {l : List α} {m : List β}, l.length = m.length → (∀ (j : Nat) a b, l[j]? = some a → m[j]? = some b → f a = b) → l.map f = m
  | [], [], _, _ => rfl
  | [], _ :: _, h, _ => by cases h
  | _ :: _, [], h, _ => by cases h
  | a :: l, b :: m, h, hf => by
    rw [List.map_cons, hf 0 a b rfl rfl, map_eq_of (by simpa using h) (fun j x y hx hy => hf (j + 1) x y (by simpa using hx) (by simpa using hy))]
/-- Print of Parse is the line. -/
theorem print_parse {l : List UInt8} (h : parE l = 0) : chkE (parC l) = 0 ∧ lineT (parC l) = l ∧ WfC (parC l) := by
  have hp := h
  unfold parE at h
  split at h
  · rename_i hs; exact absurd h hs
  · rename_i hs
    have hs : splitE l = 0 := by simpa using hs
    cases hk : kindOf (splitS l) with
    | none => rw [hk] at h; cases h
    | some j =>
      rw [hk] at h
      simp only at h
      obtain ⟨j1, j12, hf⟩ := kind_inv hk
      have hne : l ≠ [] := by
        intro e
        rw [e] at hf
        have : splitS ([] : List UInt8) = [] := by simp [splitS]
        rw [this] at hf
        simp [fits] at hf
      have hsp := split_zero hs hne
      obtain ⟨hj, _, _⟩ := Wd.spl_inv hsp
      simp only [fits, Bool.and_eq_true, beq_iff_eq] at hf
      obtain ⟨hlen, hhd⟩ := hf
      generalize splitS l = fs at h hk hj hlen hhd hsp
      have hpc : parC l = readC (bareC0 j) (kf j) fs.tail := by
        unfold parC
        rw [if_pos hp]
        have : splitS l = fs := by have := split_zero hs hne; rw [hsp] at this; exact (Option.some.inj this).symm
        rw [this, hk]
      match fs, hhd, hlen with
      | x0 :: xs, hhd, hlen =>
        simp only [List.head?_cons, Option.some.injEq] at hhd
        subst hhd
        simp only [List.tail_cons] at h hpc
        have hlen : (kf j).length = xs.length := by simpa using hlen.symm
        have hin := kf_in j j12
        have hnd := kf_nodup j j12
        have hall : ∀ (is : List Nat) (ys : List (List UInt8 × Bool)), readE is ys = 0 → ∀ (n : Nat) i x, is[n]? = some i → ys[n]? = some x → fldE i x = 0 := by
          intro is
          induction is with
          | nil => intro ys _ n i x hi; simp at hi
          | cons i0 is ih =>
            intro ys hr n i x hi hx
            cases ys with
            | nil => simp at hx
            | cons y ys =>
              obtain ⟨r1, r2⟩ := readE_cons hr
              cases n with
              | zero =>
                simp only [List.getElem?_cons_zero, Option.some.injEq] at hi hx
                subst hi hx; exact r1
              | succ n => exact ih ys r2 n i x (by simpa using hi) (by simpa using hx)
        have hfl := hall _ _ h
        have hat := readC_at (kf j) xs (bareC0 j) hin hnd
        have hoth := fun i => readC_other (kf j) xs (bareC0 j) i hin
        rw [← hpc] at hat
        have hoth2 : ∀ i, (1 ≤ i ∧ i ≤ 6) → i ∉ kf j → num (parC l) i = 0 := fun i hi hm => by
          rw [hpc, hoth i hi hm]
          rcases (show i = 1 ∨ i = 2 ∨ i = 3 ∨ i = 4 ∨ i = 5 ∨ i = 6 by omega) with rfl | rfl | rfl | rfl | rfl | rfl <;> rfl
        have hkk : (parC l).k = j := by rw [hpc, readC_k]; rfl
        have hget : ∀ i ∈ kf j, ∃ n x, (kf j)[n]? = some i ∧ xs[n]? = some x := fun i hi => by
          obtain ⟨n, hn, e⟩ := List.getElem_of_mem hi
          exact ⟨n, xs[n]'(by omega), by rw [List.getElem?_eq_getElem hn, e], List.getElem?_eq_getElem (by omega)⟩
        refine ⟨chk_mk (by rw [hkk]; omega) (fun i hi hm => hoth2 i hi (by rwa [hkk] at hm)) (fun i hi => ?_), ?_, ?_⟩
        · rw [hkk] at hi
          obtain ⟨n, x, e1, e2⟩ := hget i hi
          by_cases h6 : i = 6
          · exact .inl h6
          · rw [hat n i x e1 e2]
            exact .inr ((fld_inv (hfl n i x e1 e2)).2.2 h6).2
        · rw [line_join, hkk]
          refine Eq.trans ?_ hj
          congr 1
          simp only [bf, List.map_cons, List.map_map]
          congr 1
          refine map_eq_of hlen (fun n i x e1 e2 => ?_)
          obtain ⟨f1, f2, f3⟩ := fld_inv (hfl n i x e1 e2)
          have hn := hat n i x e1 e2
          obtain ⟨xl, xq⟩ := x
          simp only at f1
          subst f1
          simp only [Function.comp]
          congr 1
          unfold fieldS
          split
          · rename_i h6
            have := (f2 h6).1
            have e6 : num (parC l) 6 = (parC l).v := rfl
            rw [h6, e6] at hn
            rw [hn, ← h6]; exact this
          · rename_i h6
            rw [hn]; exact (f3 h6).1
        · have e6 : num (parC l) 6 = (parC l).v := rfl
          by_cases h6 : 6 ∈ kf j
          · obtain ⟨n, x, e1, e2⟩ := hget 6 h6
            have := (fld_inv (hfl n 6 x e1 e2)).2.1 rfl
            rw [← hat n 6 x e1 e2, e6] at this
            exact this.2
          · have := hoth2 6 (by omega) h6
            rw [e6] at this
            unfold WfC
            rw [this]; decide
/-- Different operations have different lines. -/
theorem print_inj {c d : OC} (hc : WfC c) (hd : WfC d) (h1 : chkE c = 0) (h2 : chkE d = 0) (h : lineT c = lineT d) : c = d := by
  rw [← (parse_print hc h1).2, ← (parse_print hd h2).2, h]

end Go.Proofs.YtaojogaakhidhaaDoor.Sc

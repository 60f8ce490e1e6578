/- The plain laws of chapter 28: answers and their lines. No program in sight. -/
import Derived.Test.YtaojogaakhidhaaDoorOpPl2
namespace Go.Proofs.YtaojogaakhidhaaDoor.Sc
open Wd (digB natFrom decimalB decVal intV intE)

/-- An answer. -/
structure OA where
  e : Int
  is : Bool
  v : Int
def WfA (a : OA) : Prop := 0 ≤ a.v ∧ a.v < 18446744073709551616
/-- Has an answer what it must not have? -/
def badA (c : OC) (a : OA) : Bool :=
  (a.is && !(decide (a.e = 0) && (decide (c.k = 8) || decide (c.k = 9)))) || (decide (a.v ≠ 0) && !(decide (a.e = 0) && (decide (c.k = 4) || decide (c.k = 10)))) || (decide (c.k = 10) && (decide (31 < a.v / 256) || decide (31 < a.v % 256)))
/-- What CheckAnswer returns. -/
def chkA (c : OC) (a : OA) : Int := if chkE c ≠ 0 then chkE c else if a.e < 0 ∨ 999 < a.e then 7 else if badA c a = true then 2 else 0
def errT : List UInt8 := [101, 114, 114, 111, 114, 32]
def yesT : List UInt8 := [121, 101, 115]
def noT : List UInt8 := [110, 111]
def okT : List UInt8 := [111, 107]
def ansT (c : OC) (a : OA) : List UInt8 :=
  if a.e ≠ 0 then errT ++ Lib.itoa a.e else if c.k = 8 ∨ c.k = 9 then (if a.is = true then yesT else noT) else if c.k = 4 then hexL a.v.toNat
  else if c.k = 10 then Lib.itoa (a.v / 256) ++ 32 :: Lib.itoa (a.v % 256) else okT
/-- What Answer returns. -/
def ansS (c : OC) (a : OA) : List UInt8 := if chkA c a = 0 then ansT c a else []
def cutA (l : List UInt8) : List UInt8 := l.takeWhile (· != 32)
def cutB (l : List UInt8) : List UInt8 := (l.dropWhile (· != 32)).drop 1
def pairV (l : List UInt8) : Option Int := if l.contains 32 = true ∧ intE (cutA l) 0 31 = 0 ∧ intE (cutB l) 0 31 = 0 then some (256 * intV (cutA l) 0 31 + intV (cutB l) 0 31) else none
def parA (c : OC) (l : List UInt8) : Option OA :=
  if errT.isPrefixOf l = true then (if intE (l.drop 6) 1 999 = 0 then some ⟨intV (l.drop 6) 1 999, false, 0⟩ else none)
  else if c.k = 8 ∨ c.k = 9 then (if l = yesT then some ⟨0, true, 0⟩ else if l = noT then some ⟨0, false, 0⟩ else none)
  else if c.k = 4 then (if unhexE l = 0 then some ⟨0, false, unhexN l⟩ else none)
  else if c.k = 10 then (pairV l).map fun v => ⟨0, false, v⟩
  else if l = okT then some ⟨0, false, 0⟩ else none
/-- What ParseAnswer returns: the error, and the answer. -/
def paE (c : OC) (l : List UInt8) : Int := if chkE c ≠ 0 then chkE c else if (parA c l).isSome = true then 0 else 6
def paA (c : OC) (l : List UInt8) : OA := if paE c l = 0 then (parA c l).getD ⟨0, false, 0⟩ else ⟨0, false, 0⟩

theorem int_zero {l : List UInt8} {lo hi : Int} (h : intE l lo hi = 0) : decimalB l = true ∧ intV l lo hi = decVal l ∧ lo ≤ decVal l ∧ decVal l ≤ hi := by
  unfold Wd.intE at h
  split at h
  · rename_i hd
    split at h
    · rename_i hr
      unfold Wd.intV
      rw [if_pos ⟨hd, hr⟩]
      exact ⟨hd, rfl, hr⟩
    · cases h
  · cases h
theorem int_itoa {n lo hi : Int} (h : lo ≤ n ∧ n ≤ hi) : intE (Lib.itoa n) lo hi = 0 ∧ intV (Lib.itoa n) lo hi = n := by
  obtain ⟨a, b⟩ := Wd.itoa_decimal n
  constructor
  · unfold Wd.intE; rw [if_pos a, b, if_pos h]
  · unfold Wd.intV; rw [if_pos ⟨a, by rw [b]; exact h⟩, b]
theorem chkA_parts {c : OC} {a : OA} (h : chkA c a = 0) : chkE c = 0 ∧ 0 ≤ a.e ∧ a.e ≤ 999 ∧ badA c a = false := by
  unfold chkA at h
  split at h
  · rename_i h1; exact absurd h h1
  · rename_i h1
    split at h
    · cases h
    · rename_i h2
      split at h
      · cases h
      · rename_i h3
        exact ⟨by simpa using h1, by omega, by omega, by simpa using h3⟩
theorem chkA_mk {c : OC} {a : OA} (h1 : chkE c = 0) (h2 : 0 ≤ a.e) (h3 : a.e ≤ 999) (h4 : badA c a = false) : chkA c a = 0 := by
  unfold chkA
  rw [if_neg (by rw [h1]; decide), if_neg (by omega), if_neg (by rw [h4]; decide)]
theorem badA_parts {c : OC} {a : OA} (h : badA c a = false) : (a.is = true → a.e = 0 ∧ (c.k = 8 ∨ c.k = 9)) ∧ (a.v ≠ 0 → a.e = 0 ∧ (c.k = 4 ∨ c.k = 10)) ∧ (c.k = 10 → a.v / 256 ≤ 31 ∧ a.v % 256 ≤ 31) := by
  simp only [badA, Bool.or_eq_false_iff, Bool.and_eq_false_iff, Bool.not_eq_false', Bool.and_eq_true, Bool.or_eq_true, decide_eq_true_eq, decide_eq_false_iff_not, ne_eq, Classical.not_not] at h
  obtain ⟨⟨h1, h2⟩, h3⟩ := h
  refine ⟨fun hi => ?_, fun hv => ?_, fun hk => ?_⟩
  · rcases h1 with h1 | h1
    · rw [hi] at h1; cases h1
    · exact h1
  · rcases h2 with h2 | h2
    · exact absurd h2 hv
    · exact h2
  · rcases h3 with h3 | h3
    · exact absurd hk h3
    · omega
theorem badA_mk {c : OC} {a : OA} (h1 : a.is = true → a.e = 0 ∧ (c.k = 8 ∨ c.k = 9)) (h2 : a.v ≠ 0 → a.e = 0 ∧ (c.k = 4 ∨ c.k = 10)) (h3 : c.k = 10 → a.v / 256 ≤ 31 ∧ a.v % 256 ≤ 31) : badA c a = false := by
  simp only [badA, Bool.or_eq_false_iff, Bool.and_eq_false_iff, Bool.not_eq_false', Bool.and_eq_true, Bool.or_eq_true, decide_eq_true_eq, decide_eq_false_iff_not, ne_eq, Classical.not_not]
  refine ⟨⟨?_, ?_⟩, ?_⟩
  · cases hi : a.is with
    | false => exact .inl rfl
    | true => exact .inr (h1 hi)
  · by_cases hv : a.v = 0
    · exact .inl hv
    · exact .inr (h2 hv)
  · by_cases hk : c.k = 10
    · have := h3 hk; exact .inr (by omega)
    · exact .inl hk
theorem pre_err (l : List UInt8) : errT.isPrefixOf (errT ++ l) = true := by rw [List.isPrefixOf_iff_prefix]; exact List.prefix_append _ _
theorem pre_inv {l : List UInt8} (h : errT.isPrefixOf l = true) : l = errT ++ l.drop 6 := by
  rw [List.isPrefixOf_iff_prefix] at h
  obtain ⟨t, rfl⟩ := h
  rw [show (6 : Nat) = errT.length from rfl, List.drop_left]
theorem err_head {l : List UInt8} (h : l.head? ≠ some 101) : errT.isPrefixOf l = false := by
  cases l with
  | nil => rfl
  | cons x r =>
    have hx : x ≠ 101 := by simpa using h
    have hx2 : (101 == x) = false := by rw [beq_eq_false_iff_ne]; exact fun e => hx e.symm
    show ((101 == x) && _) = false
    rw [hx2]; rfl
theorem err_dig {l : List UInt8} (h : l.all digB = true) : errT.isPrefixOf l = false := by
  refine err_head ?_
  cases l with
  | nil => simp
  | cons x r =>
    simp only [List.all_cons, Bool.and_eq_true] at h
    intro e
    simp only [List.head?_cons, Option.some.injEq] at e
    rw [e] at h
    exact absurd h.1 (by decide)
theorem err_hex {l : List UInt8} (h : l.all hexC = true) : errT.isPrefixOf l = false := by
  cases he : errT.isPrefixOf l with
  | false => rfl
  | true =>
    have := pre_inv he
    rw [this] at h
    rw [List.all_append, Bool.and_eq_true] at h
    exact absurd h.1 (by decide)
theorem itoa_plus {n : Int} (h : 0 ≤ n) : Lib.itoa n = Lib.decDigits n.toNat := by unfold Lib.itoa; rw [if_neg (by omega)]
theorem no32 {l : List UInt8} (h : l.all digB = true) : ∀ x ∈ l, (x != 32) = true := by
  intro x hx
  have := List.all_eq_true.1 h x hx
  rw [bne_iff_ne]
  intro e
  subst e
  exact absurd this (by decide)
theorem take_all {p : UInt8 → Bool} : ∀ {a : List UInt8} (t : List UInt8), (∀ x ∈ a, p x = true) → (a ++ t).takeWhile p = a ++ t.takeWhile p ∧ (a ++ t).dropWhile p = t.dropWhile p
  | [], t, _ => ⟨rfl, rfl⟩
  | x :: a, t, h => by
    obtain ⟨h1, h2⟩ := take_all (a := a) t (fun y hy => h y (by simp [hy]))
    have hx := h x (by simp)
    constructor
    · rw [List.cons_append, List.takeWhile_cons, if_pos hx, h1, List.cons_append]
    · rw [List.cons_append, List.dropWhile_cons, if_pos hx, h2]
theorem cut_two {a b : List UInt8} (h : a.all digB = true) : cutA (a ++ 32 :: b) = a ∧ cutB (a ++ 32 :: b) = b ∧ (a ++ 32 :: b).contains 32 = true := by
  obtain ⟨h1, h2⟩ := take_all (p := (· != 32)) (a := a) (32 :: b) (no32 h)
  refine ⟨?_, ?_, by simp⟩
  · unfold cutA
    rw [h1]
    simp
  · unfold cutB
    rw [h2]
    simp
theorem cut_inv {l : List UInt8} (h : l.contains 32 = true) : l = cutA l ++ 32 :: cutB l := by
  unfold cutA cutB
  induction l with
  | nil => simp at h
  | cons x r ih =>
    by_cases hx : x = 32
    · subst hx; simp
    · have h' : r.contains 32 = true := by
        simp only [List.contains_cons, Bool.or_eq_true, beq_iff_eq] at h
        rcases h with h | h
        · exact absurd h.symm hx
        · exact h
      have hb : (x != 32) = true := by rw [bne_iff_ne]; exact hx
      have := ih h'
      rw [List.takeWhile_cons, if_pos hb, List.dropWhile_cons, if_pos hb, List.cons_append, ← this]
theorem ansT_e {c : OC} {e : Int} {is : Bool} {v : Int} (h : e ≠ 0) : ansT c ⟨e, is, v⟩ = errT ++ Lib.itoa e := by unfold ansT; simp only; rw [if_pos h]
theorem ansT_8 {c : OC} {is : Bool} {v : Int} (h : c.k = 8 ∨ c.k = 9) : ansT c ⟨0, is, v⟩ = if is = true then yesT else noT := by unfold ansT; simp only; rw [if_neg (fun h : (0 : Int) ≠ 0 => h rfl), if_pos h]
theorem ansT_4 {c : OC} {is : Bool} {v : Int} (h : c.k = 4) : ansT c ⟨0, is, v⟩ = hexL v.toNat := by unfold ansT; simp only; rw [if_neg (fun h : (0 : Int) ≠ 0 => h rfl), if_neg (by omega), if_pos h]
theorem ansT_10 {c : OC} {is : Bool} {v : Int} (h : c.k = 10) : ansT c ⟨0, is, v⟩ = Lib.itoa (v / 256) ++ 32 :: Lib.itoa (v % 256) := by unfold ansT; simp only; rw [if_neg (fun h : (0 : Int) ≠ 0 => h rfl), if_neg (by omega), if_neg (by omega), if_pos h]
theorem ansT_ok {c : OC} {is : Bool} {v : Int} (h8 : ¬ (c.k = 8 ∨ c.k = 9)) (h4 : ¬ c.k = 4) (h10 : ¬ c.k = 10) : ansT c ⟨0, is, v⟩ = okT := by unfold ansT; simp only; rw [if_neg (fun h : (0 : Int) ≠ 0 => h rfl), if_neg h8, if_neg h4, if_neg h10]
/-- ParseAnswer of Answer is the answer. -/
theorem parse_ans {c : OC} {a : OA} (hw : WfA a) (h : chkA c a = 0) : parA c (ansT c a) = some a := by
  obtain ⟨_, h2, h3, h4⟩ := chkA_parts h
  obtain ⟨b1, b2, b3⟩ := badA_parts h4
  obtain ⟨e, is, v⟩ := a
  simp only [WfA] at hw b1 b2 b3 h2 h3
  by_cases he : e = 0
  · subst he
    by_cases h8 : c.k = 8 ∨ c.k = 9
    · have hv : v = 0 := by
        by_cases hv : v = 0
        · exact hv
        · have := (b2 hv).2; omega
      subst hv
      rw [ansT_8 h8]
      cases is
      · show parA c noT = some _
        unfold parA
        rw [if_neg (by decide), if_pos h8, if_neg (by decide), if_pos rfl]
      · show parA c yesT = some _
        unfold parA
        rw [if_neg (by decide), if_pos h8, if_pos rfl]
    · have hi : is = false := by
        cases is with
        | false => rfl
        | true => exact absurd (b1 rfl).2 h8
      subst hi
      by_cases h44 : c.k = 4
      · obtain ⟨u1, u2⟩ := unhex_hex v.toNat (by omega)
        rw [ansT_4 h44]
        unfold parA
        rw [if_neg (by rw [err_hex (hexL_all _)]; decide), if_neg h8, if_pos h44, if_pos u1, u2]
        congr 2
        omega
      · by_cases h10 : c.k = 10
        · obtain ⟨q1, q2⟩ := b3 h10
          have p1 := itoa_plus (n := v / 256) (by omega)
          obtain ⟨i1, i2⟩ := int_itoa (n := v / 256) (lo := 0) (hi := 31) (by omega)
          obtain ⟨j1, j2⟩ := int_itoa (n := v % 256) (lo := 0) (hi := 31) (by omega)
          have hd : (Lib.itoa (v / 256)).all digB = true := by rw [p1]; exact Wd.dec_all _
          obtain ⟨c1, c2, c3⟩ := cut_two (a := Lib.itoa (v / 256)) (b := Lib.itoa (v % 256)) hd
          have hne : (Lib.itoa (v / 256)) ≠ [] := by rw [p1]; exact Wd.dec_ne _
          have herr : errT.isPrefixOf (Lib.itoa (v / 256) ++ 32 :: Lib.itoa (v % 256)) = false := by
            refine err_head ?_
            rw [Wd.head_app hne]
            cases hq : Lib.itoa (v / 256) with
            | nil => simp
            | cons x r =>
              rw [hq] at hd
              simp only [List.all_cons, Bool.and_eq_true] at hd
              intro e
              simp only [List.head?_cons, Option.some.injEq] at e
              rw [e] at hd
              exact absurd hd.1 (by decide)
          rw [ansT_10 h10]
          unfold parA
          rw [if_neg (by rw [herr]; decide), if_neg h8, if_neg h44, if_pos h10]
          unfold pairV
          rw [c1, c2, c3, if_pos ⟨rfl, i1, j1⟩, i2, j2]
          simp only [Option.map_some]
          congr 2
          omega
        · have hv : v = 0 := by
            by_cases hv : v = 0
            · exact hv
            · have := (b2 hv).2; omega
          subst hv
          rw [ansT_ok h8 h44 h10]
          unfold parA
          rw [if_neg (by decide), if_neg h8, if_neg h44, if_neg h10, if_pos rfl]
  · have hi : is = false := by
      cases is with
      | false => rfl
      | true => exact absurd (b1 rfl).1 he
    have hv : v = 0 := by
      by_cases hv : v = 0
      · exact hv
      · exact absurd (b2 hv).1 he
    subst hi hv
    obtain ⟨i1, i2⟩ := int_itoa (n := e) (lo := 1) (hi := 999) (by omega)
    rw [ansT_e he]
    unfold parA
    rw [if_pos (pre_err _), show (6 : Nat) = errT.length from rfl, List.drop_left, if_pos i1, i2]
/-- Answer of ParseAnswer is the line. -/
theorem ans_parse {c : OC} {l : List UInt8} {a : OA} (hc : chkE c = 0) (h : parA c l = some a) : chkA c a = 0 ∧ ansT c a = l ∧ WfA a := by
  unfold parA at h
  split at h
  · rename_i he
    split at h
    · rename_i hi
      simp only [Option.some.injEq] at h
      subst h
      obtain ⟨d1, d2, d3, d4⟩ := int_zero hi
      rw [d2]
      refine ⟨chkA_mk hc (by simp only; omega) (by simp only; omega) (badA_mk (by simp) (by simp) (by simp)), ?_, by simp [WfA]⟩
      rw [ansT_e (by omega), Wd.itoa_of d1]
      exact (pre_inv he).symm
    · cases h
  · split at h
    · rename_i h8
      split at h
      · rename_i hl
        simp only [Option.some.injEq] at h
        subst h hl
        refine ⟨chkA_mk hc (by simp) (by simp) (badA_mk (fun _ => ⟨rfl, h8⟩) (by simp) (by simp)), ?_, by simp [WfA]⟩
        rw [ansT_8 h8]; rfl
      · split at h
        · rename_i hl
          simp only [Option.some.injEq] at h
          subst h hl
          refine ⟨chkA_mk hc (by simp) (by simp) (badA_mk (by simp) (by simp) (by simp)), ?_, by simp [WfA]⟩
          rw [ansT_8 h8]; rfl
        · cases h
    · rename_i h8
      split at h
      · rename_i h4
        split at h
        · rename_i hu
          simp only [Option.some.injEq] at h
          subst h
          obtain ⟨u1, u2, u3⟩ := hex_unhex hu
          refine ⟨chkA_mk hc (by simp) (by simp) (badA_mk (by simp) (fun _ => ⟨rfl, .inl h4⟩) (fun e => by simp only at *; omega)), ?_, ⟨u2, u3⟩⟩
          rw [ansT_4 h4]
          exact u1
        · cases h
      · rename_i h4
        split at h
        · rename_i h10
          unfold pairV at h
          split at h
          · rename_i hp
            obtain ⟨p1, p2, p3⟩ := hp
            simp only [Option.map_some, Option.some.injEq] at h
            subst h
            obtain ⟨d1, d2, d3, d4⟩ := int_zero p2
            obtain ⟨e1, e2, e3, e4⟩ := int_zero p3
            rw [d2, e2]
            refine ⟨chkA_mk hc (by simp) (by simp) (badA_mk (by simp) (fun _ => ⟨rfl, .inr h10⟩) (fun _ => by simp only; omega)), ?_, by simp only [WfA]; omega⟩
            rw [ansT_10 h10, show (256 * decVal (cutA l) + decVal (cutB l)) / 256 = decVal (cutA l) by omega, show (256 * decVal (cutA l) + decVal (cutB l)) % 256 = decVal (cutB l) by omega, Wd.itoa_of d1, Wd.itoa_of e1]
            exact (cut_inv p1).symm
          · cases h
        · rename_i h10
          split at h
          · rename_i hl
            simp only [Option.some.injEq] at h
            subst h hl
            refine ⟨chkA_mk hc (by simp) (by simp) (badA_mk (by simp) (by simp) (by simp)), ?_, by simp [WfA]⟩
            rw [ansT_ok h8 h4 h10]
          · cases h
theorem ans_inj {c : OC} {a b : OA} (ha : WfA a) (hb : WfA b) (h1 : chkA c a = 0) (h2 : chkA c b = 0) (h : ansT c a = ansT c b) : a = b := by
  have := (parse_ans ha h1).symm.trans ((congrArg (parA c) h).trans (parse_ans hb h2))
  exact Option.some.inj this

/-! The reference tries every answer that may have the line. -/
def cands (l : List UInt8) : List OA :=
  [⟨0, false, 0⟩, ⟨0, true, 0⟩] ++ (if unhexE l = 0 then [⟨0, false, unhexN l⟩] else []) ++ ((List.range 32).flatMap fun i => (List.range 32).map fun k => ⟨0, false, ((256 * i + k : Nat) : Int)⟩) ++ (List.range 999).map fun n => ⟨((n + 1 : Nat) : Int), false, 0⟩
def hits (c : OC) (l : List UInt8) (a : OA) : Bool := decide (chkA c a = 0) && (ansT c a == l)
theorem cands_wf {l : List UInt8} {a : OA} (h : a ∈ cands l) : WfA a := by
  simp only [cands, List.mem_append, List.mem_cons, List.not_mem_nil, or_false, List.mem_flatMap, List.mem_map, List.mem_range] at h
  rcases h with ((h | h) | h) | h
  · rcases h with rfl | rfl <;> simp [WfA]
  · split at h
    · rename_i hu
      simp only [List.mem_cons, List.not_mem_nil, or_false] at h
      subst h
      exact (hex_unhex hu).2
    · simp at h
  · obtain ⟨i, hi, k, hk, rfl⟩ := h
    simp only [WfA]; omega
  · obtain ⟨n, hn, rfl⟩ := h
    simp [WfA]
theorem cands_all {c : OC} {l : List UInt8} {a : OA} (hw : WfA a) (h : chkA c a = 0) (hl : ansT c a = l) : a ∈ cands l := by
  obtain ⟨_, h2, h3, h4⟩ := chkA_parts h
  obtain ⟨b1, b2, b3⟩ := badA_parts h4
  obtain ⟨e, is, v⟩ := a
  simp only [WfA] at hw b1 b2 b3 h2 h3
  simp only [cands, List.mem_append, List.mem_cons, List.not_mem_nil, or_false, List.mem_flatMap, List.mem_map, List.mem_range]
  by_cases he : e = 0
  · subst he
    by_cases hv : v = 0
    · subst hv
      refine .inl (.inl (.inl ?_))
      cases is
      · exact .inl rfl
      · exact .inr rfl
    · obtain ⟨_, hk⟩ := b2 hv
      have hi : is = false := by
        cases is with
        | false => rfl
        | true => have := (b1 rfl).2; omega
      subst hi
      rcases hk with hk | hk
      · have : l = hexL v.toNat := by
          rw [← hl, ansT_4 hk]
        subst this
        obtain ⟨u1, u2⟩ := unhex_hex v.toNat (by omega)
        refine .inl (.inl (.inr ?_))
        rw [if_pos u1, u2]
        simp only [List.mem_cons, List.not_mem_nil, or_false, OA.mk.injEq, true_and]
        omega
      · obtain ⟨q1, q2⟩ := b3 hk
        refine .inl (.inr ⟨(v / 256).toNat, by omega, (v % 256).toNat, by omega, ?_⟩)
        simp only [OA.mk.injEq, true_and]
        omega
  · have hi : is = false := by
      cases is with
      | false => rfl
      | true => exact absurd (b1 rfl).1 he
    have hv : v = 0 := by
      by_cases hv : v = 0
      · exact hv
      · exact absurd (b2 hv).1 he
    subst hi hv
    refine .inr ⟨(e - 1).toNat, by omega, ?_⟩
    simp only [OA.mk.injEq, and_true]
    omega
/-- The first candidate that hits is the answer. -/
theorem cands_find {c : OC} {l : List UInt8} (hc : chkE c = 0) : (cands l).find? (hits c l) = parA c l := by
  cases hp : parA c l with
  | none =>
    rw [List.find?_eq_none]
    intro a ha hh
    simp only [hits, Bool.and_eq_true, decide_eq_true_eq, beq_iff_eq] at hh
    have := parse_ans (cands_wf ha) hh.1
    rw [hh.2, hp] at this
    cases this
  | some a =>
    obtain ⟨a1, a2, a3⟩ := ans_parse hc hp
    cases hf : (cands l).find? (hits c l) with
    | none =>
      rw [List.find?_eq_none] at hf
      exact absurd (by simp only [hits, a1, a2, beq_self_eq_true, decide_true, Bool.and_self]) (hf a (cands_all a3 a1 a2))
    | some b =>
      have hb := List.find?_some hf
      have hm := List.mem_of_find?_eq_some hf
      simp only [hits, Bool.and_eq_true, decide_eq_true_eq, beq_iff_eq] at hb
      have := parse_ans (cands_wf hm) hb.1
      rw [hb.2, hp] at this
      exact this.symm

end Go.Proofs.YtaojogaakhidhaaDoor.Sc

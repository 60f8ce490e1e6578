/- The plain laws of chapter 1: list expressions read, and both directions inverse. No program in sight. -/
import Derived.Test.YtabopillicdjaaaGreatDoorWPl
namespace Go.Proofs.YtabopillicdjaaaGreatDoor.Wd

abbrev Pr := List UInt8 × List UInt8
/-- A run's first and last integer, in decimal form. -/
def runOf (run : List UInt8) : Option Pr := match partsL 45 run with
  | [x] => if natB x = true then some (x, x) else none
  | [x, y] => if natB x = true ∧ natB y = true ∧ valN x < valN y then some (x, y) else none
  | _ => none
/-- Does a run begin at least two behind the last integer of the one ahead? -/
def farTo (last : Option (List UInt8)) (x : List UInt8) : Bool := match last with
  | none => true
  | some z => decide (valN z + 1 < valN x)
def runsF : Option (List UInt8) → List (List UInt8) → Option (List Pr)
  | _, [] => some []
  | last, r :: rs => match runOf r with
    | none => none
    | some p => if farTo last p.1 = true then (runsF (some p.2) rs).map (p :: ·) else none
def cntP (p : Pr) : Nat := valN p.2 - valN p.1 + 1
def expP (p : Pr) : List Int := (List.range (cntP p)).map fun i => ((valN p.1 + i : Nat) : Int)
def expL (rs : List Pr) : List Int := rs.flatMap expP
def lastV (rs : List Pr) : Nat := match rs.getLast? with | some p => valN p.2 | none => 0
/-- What ParseList returns. -/
def plE (s : List UInt8) : Int := if s = [45] then 0 else match runsF none (partsL 44 s) with
  | none => 6
  | some rs => if 1000000000 < lastV rs then 7 else if 500 < (expL rs).length then 3 else 0
def plS (s : List UInt8) : List Int := if s = [45] then [] else match runsF none (partsL 44 s) with
  | none => []
  | some rs => if plE s = 0 then expL rs else []

theorem runOf_some {r : List UInt8} {p : Pr} (h : runOf r = some p) : natB p.1 = true ∧ natB p.2 = true ∧ valN p.1 ≤ valN p.2 ∧ ((p.1 = p.2 ∧ partsL 45 r = [p.1]) ∨ (valN p.1 < valN p.2 ∧ partsL 45 r = [p.1, p.2])) := by
  unfold runOf at h
  split at h
  · rename_i x e
    split at h
    · rename_i hx; cases h; exact ⟨hx, hx, Nat.le_refl _, .inl ⟨rfl, e⟩⟩
    · cases h
  · rename_i x y e
    split at h
    · rename_i hx; cases h; exact ⟨hx.1, hx.2.1, Nat.le_of_lt hx.2.2, .inr ⟨hx.2.2, e⟩⟩
    · cases h
  · cases h
theorem expP_len (p : Pr) : (expP p).length = cntP p := by simp [expP]
theorem expL_cons (p : Pr) (rs : List Pr) : expL (p :: rs) = expP p ++ expL rs := by simp [expL]
theorem expL_snoc (rs : List Pr) (p : Pr) : expL (rs ++ [p]) = expL rs ++ expP p := by simp [expL]
theorem lastV_cons {p : Pr} {rs : List Pr} (h : rs ≠ []) : lastV (p :: rs) = lastV rs := by
  cases rs with
  | nil => exact absurd rfl h
  | cons q rs => simp [lastV, List.getLast?_cons_cons]
/-- What a good row of runs is like. -/
theorem runsF_good : ∀ (runs : List (List UInt8)) (last : Option (List UInt8)) (rs : List Pr), runsF last runs = some rs → rs.length = runs.length ∧ ∀ p ∈ rs, natB p.1 = true ∧ natB p.2 = true ∧ valN p.1 ≤ valN p.2 ∧ valN p.2 ≤ lastV rs
  | [], last, rs, h => by
    simp only [runsF, Option.some.injEq] at h
    subst h
    exact ⟨rfl, fun p hp => by cases hp⟩
  | r :: runs, last, rs, h => by
    rw [runsF] at h
    cases hr : runOf r with
    | none => rw [hr] at h; cases h
    | some p =>
      rw [hr] at h
      simp only at h
      split at h
      · rw [Option.map_eq_some_iff] at h
        obtain ⟨qs, h1, rfl⟩ := h
        obtain ⟨i1, i2⟩ := runsF_good runs (some p.2) qs h1
        obtain ⟨g1, g2, g3, _⟩ := runOf_some hr
        refine ⟨by simp [i1], ?_⟩
        by_cases hq : qs = []
        · subst hq
          intro q hq
          simp only [List.mem_singleton] at hq
          subst hq
          exact ⟨g1, g2, g3, Nat.le_refl _⟩
        · rw [lastV_cons hq]
          intro u hm
          rcases List.mem_cons.1 hm with e0 | hm
          · rw [e0]
            refine ⟨g1, g2, g3, ?_⟩
            match qs, hq, i2, runs, h1 with
            | q :: qs', _, i2, r' :: runs', h1 =>
              have hfar : farTo (some p.2) q.1 = true := by
                rw [runsF] at h1
                cases hr' : runOf r' with
                | none => rw [hr'] at h1; cases h1
                | some p' =>
                  rw [hr'] at h1
                  simp only at h1
                  split at h1
                  · rename_i hf
                    rw [Option.map_eq_some_iff] at h1
                    obtain ⟨_, _, e⟩ := h1
                    simp only [List.cons.injEq] at e
                    rw [← e.1]; exact hf
                  · cases h1
              have := i2 q (by simp)
              simp only [farTo, decide_eq_true_eq] at hfar
              omega
          · exact i2 u hm
      · cases h
theorem parts_join (c : UInt8) : ∀ (s : List UInt8), (partsL c s).flatMap (c :: ·) = c :: s
  | [] => rfl
  | x :: r => by
    have ih := parts_join c r
    rw [partsL]
    by_cases h : x = c
    · subst h
      rw [if_pos rfl, List.flatMap_cons, ih]; rfl
    · rw [if_neg h]
      match hp : partsL c r, ih with
      | [], _ => exact absurd hp (parts_ne c r)
      | p :: ps, ih =>
        simp only [List.flatMap_cons, List.cons_append, List.cons.injEq, true_and] at ih ⊢
        rw [ih]
/-- A run's text. -/
theorem run_text {r : List UInt8} {p : Pr} (h : runOf r = some p) : r = runT (valN p.1) (valN p.2) := by
  obtain ⟨g1, g2, _, g4⟩ := runOf_some h
  obtain ⟨_, _, t1⟩ := natB_val g1
  obtain ⟨_, _, t2⟩ := natB_val g2
  have hj := parts_join 45 r
  unfold runT
  rw [t1, t2]
  rcases g4 with ⟨e, h4⟩ | ⟨e, h4⟩
  · rw [h4] at hj
    simp only [List.flatMap_cons, List.flatMap_nil, List.append_nil, List.cons.injEq, true_and] at hj
    rw [e, if_neg (by omega), List.append_nil, ← hj, e]
  · rw [h4] at hj
    simp only [List.flatMap_cons, List.flatMap_nil, List.append_nil, List.cons_append, List.cons.injEq, true_and] at hj
    rw [if_pos (by omega), hj]
theorem parts_no {c : UInt8} {l : List UInt8} (h : ∀ x ∈ l, x ≠ c) : partsL c l = [l] := parts_none h
theorem itoa_no (n : Nat) : ∀ x ∈ Lib.itoa n, x ≠ 45 ∧ x ≠ 44 := natB_no (itoa_natB n).1
theorem run_of (a b : Nat) (h : a ≤ b) : runOf (runT a b) = some (Lib.itoa a, Lib.itoa b) := by
  obtain ⟨a1, a2⟩ := itoa_natB a
  obtain ⟨b1, b2⟩ := itoa_natB b
  unfold runT
  by_cases hlt : (a : Int) < b
  · rw [if_pos hlt]
    have e : partsL 45 (Lib.itoa a ++ 45 :: Lib.itoa b) = [Lib.itoa a, Lib.itoa b] := by
      rw [parts_cut _ (fun x hx => (itoa_no a x hx).1), parts_none (fun x hx => (itoa_no b x hx).1)]
    unfold runOf
    rw [e]
    simp only
    rw [if_pos ⟨a1, b1, by rw [a2, b2]; omega⟩]
  · obtain rfl : a = b := by omega
    rw [if_neg hlt, List.append_nil]
    unfold runOf
    rw [parts_none (fun x hx => (itoa_no a x hx).1)]
    simp only
    rw [if_pos a1]
theorem runT_no (a b : Nat) : ∀ x ∈ runT a b, x ≠ 44 := by
  intro x hx
  unfold runT at hx
  rcases List.mem_append.1 hx with hx | hx
  · exact (itoa_no a x hx).2
  · split at hx
    · rcases List.mem_cons.1 hx with rfl | hx
      · decide
      · exact (itoa_no b x hx).2
    · cases hx
theorem runN_ge : ∀ (l : List Int) (a : Int) (k : Nat), (∀ j, j < k → l[j]? = some (a + 1 + (j : Nat))) → k ≤ runN a l
  | _, _, 0, _ => Nat.zero_le _
  | [], a, k + 1, h => by have := h 0 (by omega); simp at this
  | b :: r, a, k + 1, h => by
    have h0 := h 0 (by omega)
    simp at h0
    subst h0
    have := runN_ge r (a + 1) k (fun j hj => by
      have := h (j + 1) (by omega)
      simp only [List.getElem?_cons_succ] at this
      rw [this]; congr 1; omega)
    rw [runN, if_pos rfl]; omega
/-- What is written is read. -/
theorem runs_rest : ∀ (k : Nat) (l : List Int) (last : Option (List UInt8)), l.length ≤ k → l ≠ [] → ascB l = true → (∀ x ∈ l, 0 ≤ x) → (∀ z x, last = some z → l.head? = some x → (valN z : Int) + 1 < x) →
    ∃ rs, runsF last (partsL 44 (restT l).tail) = some rs ∧ expL rs = l
  | 0, l, _, h, hn, _, _, _ => absurd (List.length_eq_zero_iff.1 (by omega)) hn
  | k + 1, [], _, _, hn, _, _, _ => absurd rfl hn
  | k + 1, a :: r, last, hl, _, hasc, hpos, hlast => by
    obtain ⟨n, hn⟩ : ∃ n, runN a r = n := ⟨_, rfl⟩
    have hnl : n ≤ r.length := by rw [← hn]; exact runN_le r a
    have ha0 : 0 ≤ a := hpos a (by simp)
    obtain ⟨A, rfl⟩ : ∃ A : Nat, a = A := ⟨a.toNat, by omega⟩
    have hat : ∀ j, j < n → r[j]? = some ((A : Int) + 1 + (j : Nat)) := fun j hj => runN_at r A j (by omega)
    rw [restT_cons, hn, List.tail_cons]
    have hb : ((A : Int) + (n : Nat)) = ((A + n : Nat) : Int) := by omega
    rw [hb]
    have hfar : farTo last (Lib.itoa A) = true := by
      cases last with
      | none => rfl
      | some z =>
        have := hlast z A rfl rfl
        simp only [farTo, decide_eq_true_eq, (itoa_natB A).2]
        omega
    have hexp : expP (Lib.itoa A, Lib.itoa (A + n : Nat)) = (A : Int) :: r.take n := by
      apply List.ext_getElem?
      intro j
      simp only [expP, cntP, (itoa_natB A).2, (itoa_natB (A + n)).2, show A + n - A + 1 = n + 1 by omega]
      rw [List.getElem?_map]
      by_cases hj : j < n + 1
      · rw [List.getElem?_range hj]
        cases j with
        | zero => simp
        | succ j =>
          rw [List.getElem?_cons_succ, List.getElem?_take, if_pos (by omega), hat j (by omega)]
          simp only [Option.map_some, Option.some.injEq]
          omega
      · rw [List.getElem?_eq_none (by simp; omega), List.getElem?_eq_none (by rw [List.length_cons, List.length_take]; omega)]
        rfl
    by_cases hd : r.drop n = []
    · rw [hd, restT_nil, List.append_nil, parts_none (runT_no A (A + n))]
      refine ⟨[(Lib.itoa A, Lib.itoa (A + n : Nat))], ?_, ?_⟩
      · rw [runsF, run_of A (A + n) (by omega)]
        simp only [hfar, if_true, runsF, Option.map_some]
      · rw [expL_cons, hexp]
        simp only [expL, List.flatMap_nil, List.append_nil]
        rw [List.take_of_length_le (List.drop_eq_nil_iff.1 hd)]
    · obtain ⟨x, q, hx⟩ : ∃ x q, r.drop n = x :: q := by
        cases h : r.drop n with
        | nil => exact absurd h hd
        | cons x q => exact ⟨x, q, rfl⟩
      have hxn : r[n]? = some x := by rw [← List.head?_drop, hx]; rfl
      have hasc' := (asc_iff _).1 hasc
      have hgt : (A : Int) + (n : Nat) < x := by
        cases n with
        | zero => have := hasc' 0 A x rfl (by simpa using hxn); simpa using this
        | succ m =>
          have h1 := hat m (by omega)
          have := hasc' (m + 1) _ x (by simpa using h1) (by simpa using hxn)
          omega
      have hne : x ≠ (A : Int) + 1 + (n : Nat) := by
        intro e
        have h2 : runN A r ≥ n + 1 := runN_ge r A (n + 1) (fun j hj => by
          by_cases hjn : j < n
          · exact hat j hjn
          · obtain rfl : j = n := by omega
            rw [hxn, e])
        omega
      have hrd : ascB (r.drop n) = true := by
        rw [asc_iff]
        intro j c d h1 h2
        rw [List.getElem?_drop] at h1 h2
        exact hasc' (n + j + 1) c d (by simpa using h1) (by rw [List.getElem?_cons_succ]; exact h2)
      obtain ⟨rs, h1, h2⟩ := runs_rest k (r.drop n) (some (Lib.itoa (A + n : Nat))) (by simp only [List.length_cons] at hl; rw [List.length_drop]; omega) hd hrd (fun y hy => hpos y (by simp [List.mem_of_mem_drop hy]))
        (fun z y hz hy => by
          simp only [Option.some.injEq] at hz
          subst hz
          rw [hx] at hy
          simp only [List.head?_cons, Option.some.injEq] at hy
          subst hy
          rw [(itoa_natB (A + n)).2]
          omega)
      have hrest : restT (r.drop n) = 44 :: (restT (r.drop n)).tail := by rw [hx, restT_cons]; rfl
      rw [hrest, parts_cut _ (runT_no A (A + n))]
      refine ⟨(Lib.itoa A, Lib.itoa (A + n : Nat)) :: rs, ?_, ?_⟩
      · rw [runsF, run_of A (A + n) (by omega)]
        simp only [hfar, if_true, h1, Option.map_some]
      · rw [expL_cons, hexp, h2]
        simp
theorem listE_zero {l : List Int} : listE l = 0 ↔ l.length ≤ 500 ∧ l.any outB = false ∧ ascB l = true := by
  unfold listE
  constructor
  · intro h
    split at h
    · cases h
    · split at h
      · cases h
      · split at h
        · cases h
        · rename_i h1 h2 h3
          exact ⟨by omega, by simpa using h2, by simpa using h3⟩
  · rintro ⟨h1, h2, h3⟩
    rw [if_neg (by omega), if_neg (by rw [h2]; simp), if_neg (by rw [h3]; simp)]
theorem in_of {l : List Int} (h : l.any outB = false) : ∀ x ∈ l, 0 ≤ x ∧ x ≤ 1000000000 := by
  intro x hx
  have := List.any_eq_false.1 h x hx
  simp only [outB, decide_eq_true_eq] at this
  omega
theorem exp_last {p : Pr} (h : valN p.1 ≤ valN p.2) : ((valN p.2 : Nat) : Int) ∈ expP p := by
  unfold expP cntP
  rw [List.mem_map]
  exact ⟨valN p.2 - valN p.1, List.mem_range.2 (by omega), by congr 1; omega⟩
theorem lastV_mem {rs : List Pr} (hn : rs ≠ []) (h : ∀ p ∈ rs, valN p.1 ≤ valN p.2) : ((lastV rs : Nat) : Int) ∈ expL rs := by
  obtain ⟨qs, p, rfl⟩ : ∃ qs p, rs = qs ++ [p] := ⟨rs.dropLast, rs.getLast hn, (List.dropLast_concat_getLast hn).symm⟩
  rw [expL_snoc]
  refine List.mem_append.2 (.inr ?_)
  have : lastV (qs ++ [p]) = valN p.2 := by simp [lastV]
  rw [this]
  exact exp_last (h p (by simp))
/-- ParseList of List. -/
theorem list_parse {l : List Int} (h : listE l = 0) : plE (listT l) = 0 ∧ plS (listT l) = l := by
  obtain ⟨h1, h2, h3⟩ := listE_zero.1 h
  by_cases hl : l = []
  · subst hl; exact ⟨rfl, rfl⟩
  · have hin := in_of h2
    obtain ⟨rs, e1, e2⟩ := runs_rest l.length l none (Nat.le_refl _) hl h3 (fun x hx => (hin x hx).1) (fun z x hz => by cases hz)
    have ht : listT l = (restT l).tail := by unfold listT; rw [if_neg hl]
    rw [← ht] at e1
    have hne : listT l ≠ [45] := by
      intro e
      rw [e] at e1
      revert e1
      have : runsF none (partsL 44 [45]) = none := by decide
      rw [this]
      intro e1; cases e1
    have hg := runsF_good _ _ _ e1
    have hrs : rs ≠ [] := by
      intro e
      subst e
      exact hl (by rw [← e2]; rfl)
    have hlast : ¬ 1000000000 < lastV rs := by
      have := lastV_mem hrs (fun p hp => (hg.2 p hp).2.2.1)
      rw [e2] at this
      have := (hin _ this).2
      omega
    have hE : plE (listT l) = 0 := by
      unfold plE
      rw [if_neg hne, e1]
      simp only
      rw [if_neg hlast, e2, if_neg (by omega)]
    refine ⟨hE, ?_⟩
    unfold plS
    rw [if_neg hne, e1]
    simp only
    rw [if_pos hE, e2]
theorem runsF_cons {last : Option (List UInt8)} {r : List UInt8} {runs : List (List UInt8)} {rs : List Pr} (h : runsF last (r :: runs) = some rs) : ∃ p qs, rs = p :: qs ∧ runOf r = some p ∧ farTo last p.1 = true ∧ runsF (some p.2) runs = some qs := by
  rw [runsF] at h
  cases hr : runOf r with
  | none => rw [hr] at h; cases h
  | some p =>
    rw [hr] at h
    simp only at h
    split at h
    · rename_i hf
      rw [Option.map_eq_some_iff] at h
      obtain ⟨qs, h1, rfl⟩ := h
      exact ⟨p, qs, rfl, rfl, hf, h1⟩
    · cases h
theorem runs_above : ∀ (runs : List (List UInt8)) (z : List UInt8) (rs : List Pr), runsF (some z) runs = some rs → ∀ x ∈ expL rs, (valN z : Int) + 1 < x
  | [], z, rs, h => by
    simp only [runsF, Option.some.injEq] at h
    subst h
    intro x hx; cases hx
  | r :: runs, z, rs, h => by
    obtain ⟨p, qs, rfl, hr, hf, h1⟩ := runsF_cons h
    obtain ⟨_, _, g3, _⟩ := runOf_some hr
    simp only [farTo, decide_eq_true_eq] at hf
    intro x hx
    rw [expL_cons] at hx
    rcases List.mem_append.1 hx with hx | hx
    · unfold expP at hx
      rw [List.mem_map] at hx
      obtain ⟨i, _, rfl⟩ := hx
      omega
    · have := runs_above runs p.2 qs h1 x hx
      omega
theorem expP_asc (p : Pr) : (expP p).Pairwise (· < ·) := by
  unfold expP
  rw [List.pairwise_map]
  exact List.pairwise_lt_range.imp (fun h => by omega)
theorem runs_asc : ∀ (runs : List (List UInt8)) (last : Option (List UInt8)) (rs : List Pr), runsF last runs = some rs → (expL rs).Pairwise (· < ·)
  | [], last, rs, h => by
    simp only [runsF, Option.some.injEq] at h
    subst h
    exact List.Pairwise.nil
  | r :: runs, last, rs, h => by
    obtain ⟨p, qs, rfl, hr, hf, h1⟩ := runsF_cons h
    rw [expL_cons, List.pairwise_append]
    refine ⟨expP_asc p, runs_asc runs _ qs h1, fun x hx y hy => ?_⟩
    have := runs_above runs p.2 qs h1 y hy
    unfold expP cntP at hx
    rw [List.mem_map] at hx
    obtain ⟨i, hi, rfl⟩ := hx
    have := List.mem_range.1 hi
    have := (runOf_some hr).2.2.1
    omega
theorem asc_of {l : List Int} (h : l.Pairwise (· < ·)) : ascB l = true := by
  rw [asc_iff]
  intro j a b h1 h2
  obtain ⟨i1, e1⟩ := List.getElem?_eq_some_iff.1 h1
  obtain ⟨i2, e2⟩ := List.getElem?_eq_some_iff.1 h2
  rw [← e1, ← e2]
  exact List.pairwise_iff_getElem.1 h j (j + 1) i1 i2 (by omega)
theorem exp_head (p : Pr) : expP p = ((valN p.1 : Nat) : Int) :: (expP p).tail := by
  unfold expP cntP
  rw [List.range_succ_eq_map]
  simp
theorem exp_at (p : Pr) (j : Nat) (hj : j < valN p.2 - valN p.1) : (expP p).tail[j]? = some ((valN p.1 : Int) + 1 + (j : Nat)) := by
  rw [List.getElem?_tail]
  unfold expP cntP
  rw [List.getElem?_map, List.getElem?_range (by omega)]
  simp only [Option.map_some, Option.some.injEq]
  omega
theorem exp_tail_len (p : Pr) : (expP p).tail.length = valN p.2 - valN p.1 := by
  rw [List.length_tail, expP_len, cntP]; omega
/-- List of what was read is what was read. -/
theorem rest_exp : ∀ (runs : List (List UInt8)) (last : Option (List UInt8)) (rs : List Pr), runsF last runs = some rs → restT (expL rs) = runs.flatMap (44 :: ·)
  | [], last, rs, h => by
    simp only [runsF, Option.some.injEq] at h
    subst h
    rfl
  | r :: runs, last, rs, h => by
    obtain ⟨p, qs, rfl, hr, _, h1⟩ := runsF_cons h
    obtain ⟨_, _, g3, _⟩ := runOf_some hr
    have ht := run_text hr
    have hn : runN (valN p.1) ((expP p).tail ++ expL qs) = valN p.2 - valN p.1 := by
      refine runN_eq _ _ _ (fun j hj => ?_) ?_
      · rw [List.getElem?_append_left (by rw [exp_tail_len]; exact hj)]
        exact exp_at p j hj
      · rw [List.getElem?_append_right (by rw [exp_tail_len]; exact Nat.le_refl _), exp_tail_len, Nat.sub_self]
        intro e
        have hm := List.mem_of_getElem? e
        have := runs_above runs p.2 qs h1 _ hm
        omega
    rw [expL_cons, exp_head p, List.cons_append, restT_cons, hn, List.flatMap_cons]
    have hd : ((expP p).tail ++ expL qs).drop (valN p.2 - valN p.1) = expL qs := by
      rw [← exp_tail_len p, List.drop_left]
    rw [hd, rest_exp runs _ qs h1]
    have e : ((valN p.1 : Nat) : Int) + ((valN p.2 - valN p.1 : Nat) : Int) = (valN p.2 : Nat) := by omega
    rw [e, ← ht]
    rfl
/-- List of ParseList. -/
theorem parse_list {s : List UInt8} (h : plE s = 0) : listE (plS s) = 0 ∧ listT (plS s) = s := by
  by_cases hs : s = [45]
  · subst hs; exact ⟨rfl, rfl⟩
  · have h0 := h
    unfold plE at h
    rw [if_neg hs] at h
    cases hr : runsF none (partsL 44 s) with
    | none => rw [hr] at h; cases h
    | some rs =>
      rw [hr] at h
      simp only at h
      split at h
      · cases h
      · rename_i hlast
        split at h
        · cases h
        · rename_i hlen
          have hS : plS s = expL rs := by unfold plS; rw [if_neg hs, hr]; simp only; rw [if_pos h0]
          have hg := runsF_good _ _ _ hr
          have hasc := asc_of (runs_asc _ _ _ hr)
          have hne : rs ≠ [] := by
            intro e
            subst e
            have := hg.1
            exact parts_ne 44 s (List.length_eq_zero_iff.1 (by simpa using this.symm))
          have hex : expL rs ≠ [] := by
            intro e
            have := lastV_mem hne (fun p hp => (hg.2 p hp).2.2.1)
            rw [e] at this; cases this
          rw [hS]
          refine ⟨listE_zero.2 ⟨by omega, ?_, hasc⟩, ?_⟩
          · rw [List.any_eq_false]
            intro x hx
            unfold expL at hx
            rw [List.mem_flatMap] at hx
            obtain ⟨p, hp, hx⟩ := hx
            unfold expP cntP at hx
            rw [List.mem_map] at hx
            obtain ⟨i, hi, rfl⟩ := hx
            have := List.mem_range.1 hi
            have := hg.2 p hp
            simp only [outB, decide_eq_true_eq]
            omega
          · unfold listT
            rw [if_neg hex, rest_exp _ _ _ hr, parts_join]
            rfl
end Go.Proofs.YtabopillicdjaaaGreatDoor.Wd

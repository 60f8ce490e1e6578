/- The reference of chapter 2. -/
import Derived.Test.YtdfciaeeciaadaaDoorCfg3
namespace Go.Proofs.YtdfciaeeciaadaaDoor
open Go.RowKit

theorem ret1 {k : IntKind} {a b : Int} (h : a = b) : Ending.returned (.int k a) = .returned (.int k b) := by rw [h]
set_option maxHeartbeats 400000 in
theorem in_any (n low high : Int) (w : World) :
    Calls Tryd.prog 39 #[.int .i64 n, .int .i64 low, .int .i64 high] w fun e w' => e = .returned (.bool (inB n low high)) ∧ w = w' := by
  by_cases h1 : low ≤ n
  · by_cases h2 : n ≤ high
    · go_enter Tryd.func39, Tryd.ntmps39
      go_wp2
      go_ret
      exact ⟨by simp [inB, h1, h2], rfl⟩
    · go_enter Tryd.func39, Tryd.ntmps39
      go_wp2
      go_ret
      exact ⟨by simp [inB]; omega, rfl⟩
  · have h3 : n < low := by omega
    clear h1
    go_enter Tryd.func39, Tryd.ntmps39
    go_wp2
    go_ret
    exact ⟨by simp [inB]; omega, rfl⟩

set_option maxHeartbeats 1000000 in
theorem rcheck_any (C N S K Q : Int) (w : World) :
    Calls Tryd.prog 22 #[.agg #[.int .i64 C, .int .i64 N, .int .i64 S, .int .i64 K, .int .i64 Q]] w (CheckPost C N S K Q w) := by
  cases i1 : inB C 8 64
  · skip
    go_enter Tryd.func22, Tryd.ntmps22
    go_wp2_with (first | (go_at_call 39; refine (in_any _ _ _ _).mono ?_; rintro e w2 ⟨rfl, rfl⟩))
    go_ret
    exact ⟨ret1 (show (7 : Int) = chkE C N S K Q from by simp [chkE, okC_in, i1]), (by repeat (first | exact Old.refl _ | exact hb | apply Old.drewN | apply Old.drew | apply Old.alloc | apply Old.then (k := hb)))⟩
  · skip
    cases i2 : inB N 7 24
    · skip
      go_enter Tryd.func22, Tryd.ntmps22
      go_wp2_with (first | (go_at_call 39; refine (in_any _ _ _ _).mono ?_; rintro e w2 ⟨rfl, rfl⟩))
      go_ret
      exact ⟨ret1 (show (7 : Int) = chkE C N S K Q from by simp [chkE, okC_in, i1, i2]), (by repeat (first | exact Old.refl _ | exact hb | apply Old.drewN | apply Old.drew | apply Old.alloc | apply Old.then (k := hb)))⟩
    · skip
      cases i3 : inB S 4 64
      · skip
        go_enter Tryd.func22, Tryd.ntmps22
        go_wp2_with (first | (go_at_call 39; refine (in_any _ _ _ _).mono ?_; rintro e w2 ⟨rfl, rfl⟩))
        go_ret
        exact ⟨ret1 (show (7 : Int) = chkE C N S K Q from by simp [chkE, okC_in, i1, i2, i3]), (by repeat (first | exact Old.refl _ | exact hb | apply Old.drewN | apply Old.drew | apply Old.alloc | apply Old.then (k := hb)))⟩
      · skip
        cases i4 : inB K 1 8
        · skip
          go_enter Tryd.func22, Tryd.ntmps22
          go_wp2_with (first | (go_at_call 39; refine (in_any _ _ _ _).mono ?_; rintro e w2 ⟨rfl, rfl⟩))
          go_ret
          exact ⟨ret1 (show (7 : Int) = chkE C N S K Q from by simp [chkE, okC_in, i1, i2, i3, i4]), (by repeat (first | exact Old.refl _ | exact hb | apply Old.drewN | apply Old.drew | apply Old.alloc | apply Old.then (k := hb)))⟩
        · skip
          cases i5 : inB Q 2 16
          · skip
            go_enter Tryd.func22, Tryd.ntmps22
            go_wp2_with (first | (go_at_call 39; refine (in_any _ _ _ _).mono ?_; rintro e w2 ⟨rfl, rfl⟩))
            go_ret
            exact ⟨ret1 (show (7 : Int) = chkE C N S K Q from by simp [chkE, okC_in, i1, i2, i3, i4, i5]), (by repeat (first | exact Old.refl _ | exact hb | apply Old.drewN | apply Old.drew | apply Old.alloc | apply Old.then (k := hb)))⟩
          · skip
            go_enter Tryd.func22, Tryd.ntmps22
            go_wp2_with (first | (go_at_call 39; refine (in_any _ _ _ _).mono ?_; rintro e w2 ⟨rfl, rfl⟩))
            go_ret
            exact ⟨ret1 (show (0 : Int) = chkE C N S K Q from by simp [chkE, okC_in, i1, i2, i3, i4, i5]), (by repeat (first | exact Old.refl _ | exact hb | apply Old.drewN | apply Old.drew | apply Old.alloc | apply Old.then (k := hb)))⟩
theorem rcheck_ok (C N S K Q : Int) (w : World) (h : okC C N S K Q = true) :
    Calls Tryd.prog 22 #[.agg #[.int .i64 C, .int .i64 N, .int .i64 S, .int .i64 K, .int .i64 Q]] w fun e w' => e = .returned (.int .i64 0) ∧ Below w.heap.size w w' := by
  refine (rcheck_any C N S K Q w).mono fun e w' h' => ?_
  obtain ⟨h1, h2⟩ := h'
  rw [h1, chkE, if_pos h]
  exact ⟨rfl, h2⟩
theorem rcheck_bad (C N S K Q : Int) (w : World) (h : okC C N S K Q = false) :
    Calls Tryd.prog 22 #[.agg #[.int .i64 C, .int .i64 N, .int .i64 S, .int .i64 K, .int .i64 Q]] w fun e w' => e = .returned (.int .i64 7) ∧ Below w.heap.size w w' := by
  refine (rcheck_any C N S K Q w).mono fun e w' h' => ?_
  obtain ⟨h1, h2⟩ := h'
  rw [h1, chkE, if_neg (by simp [h])]
  exact ⟨rfl, h2⟩

set_option maxHeartbeats 400000 in
theorem rwords_any (C N S K Q : Int) (w : World) :
    Calls Tryd.prog 15 #[.agg #[.int .i64 C, .int .i64 N, .int .i64 S, .int .i64 K, .int .i64 Q]] w fun e w' => e = .returned (.tuple #[.int .i64 (wdV C N S K Q), .int .i64 (chkE C N S K Q)]) ∧ Below w.heap.size w w' := by
  cases h : okC C N S K Q
  · have H := Lib.hid h
    clear h
    go_enter Tryd.func15, Tryd.ntmps15
    go_wp2_with (first | (go_at_call 22; refine (rcheck_bad _ _ _ _ _ _ H.out).mono ?_; rintro e w1 ⟨rfl, hb⟩; obtain ⟨hc, hf⟩ := bcell hb; have hz := hb.size; simp only [World.size_alloc] at hz) | go_in)
    go_ret2
    exact ⟨by simp [wdV, chkE, H.out], (by repeat (first | exact Old.refl _ | exact hb | apply Old.alloc | apply Old.then (k := hb)))⟩
  · have H := Lib.hid h
    clear h
    have h := H.out
    obtain ⟨h1, h2, h3, h4, h5, h6, h7, h8, h9, h10⟩ := okC_bounds h
    clear h
    obtain ⟨m1, m2⟩ := mul_bounds h1 h2 h3 h4
    go_enter Tryd.func15, Tryd.ntmps15
    go_wp2_with (first | (go_at_call 22; refine (rcheck_ok _ _ _ _ _ _ H.out).mono ?_; rintro e w1 ⟨rfl, hb⟩; obtain ⟨hc, hf⟩ := bcell hb; have hz := hb.size; simp only [World.size_alloc] at hz) | go_in)
    all_goals go_ret2
    all_goals exact ⟨ret2 (by rw [wdV, if_pos H.out]) (by rw [chkE, if_pos H.out]), (by repeat (first | exact Old.refl _ | exact hb | apply Old.alloc | apply Old.then (k := hb)))⟩

set_option maxHeartbeats 400000 in
theorem rlargest_any (C N S K Q : Int) (w : World) :
    Calls Tryd.prog 17 #[.agg #[.int .i64 C, .int .i64 N, .int .i64 S, .int .i64 K, .int .i64 Q]] w fun e w' => e = .returned (.tuple #[.int .i64 (lgV C N S K Q), .int .i64 (chkE C N S K Q)]) ∧ Below w.heap.size w w' := by
  cases h : okC C N S K Q
  · have H := Lib.hid h
    clear h
    go_enter Tryd.func17, Tryd.ntmps17
    go_wp2_with (first | (go_at_call 22; refine (rcheck_bad _ _ _ _ _ _ H.out).mono ?_; rintro e w1 ⟨rfl, hb⟩; obtain ⟨hc, hf⟩ := bcell hb; have hz := hb.size; simp only [World.size_alloc] at hz) | go_in)
    go_ret2
    exact ⟨by simp [lgV, chkE, H.out], (by repeat (first | exact Old.refl _ | exact hb | apply Old.alloc | apply Old.then (k := hb)))⟩
  · have H := Lib.hid h
    clear h
    have h := H.out
    obtain ⟨h1, h2, h3, h4, h5, h6, h7, h8, h9, h10⟩ := okC_bounds h
    clear h
    obtain ⟨m1, m2⟩ := mul_bounds h1 h2 h3 h4
    go_enter Tryd.func17, Tryd.ntmps17
    go_wp2_with (first | (go_at_call 22; refine (rcheck_ok _ _ _ _ _ _ H.out).mono ?_; rintro e w1 ⟨rfl, hb⟩; obtain ⟨hc, hf⟩ := bcell hb; have hz := hb.size; simp only [World.size_alloc] at hz) | go_in)
    all_goals go_ret2
    all_goals exact ⟨ret2 (by rw [lgV, if_pos H.out]; omega) (by rw [chkE, if_pos H.out]), (by repeat (first | exact Old.refl _ | exact hb | apply Old.alloc | apply Old.then (k := hb)))⟩

set_option maxHeartbeats 400000 in
theorem rbudget_any (C N S K Q : Int) (w : World) :
    Calls Tryd.prog 18 #[.agg #[.int .i64 C, .int .i64 N, .int .i64 S, .int .i64 K, .int .i64 Q]] w fun e w' => e = .returned (.tuple #[.int .i64 (bgV C N S K Q), .int .i64 (chkE C N S K Q)]) ∧ Below w.heap.size w w' := by
  cases h : okC C N S K Q
  · have H := Lib.hid h
    clear h
    go_enter Tryd.func18, Tryd.ntmps18
    go_wp2_with (first | (go_at_call 22; refine (rcheck_bad _ _ _ _ _ _ H.out).mono ?_; rintro e w1 ⟨rfl, hb⟩; obtain ⟨hc, hf⟩ := bcell hb; have hz := hb.size; simp only [World.size_alloc] at hz) | go_in)
    go_ret2
    exact ⟨by simp [bgV, chkE, H.out], (by repeat (first | exact Old.refl _ | exact hb | apply Old.alloc | apply Old.then (k := hb)))⟩
  · have H := Lib.hid h
    clear h
    have h := H.out
    obtain ⟨h1, h2, h3, h4, h5, h6, h7, h8, h9, h10⟩ := okC_bounds h
    clear h
    obtain ⟨m3, m4, _⟩ := mul_upto (C := C) (k := N - 6) (m := N) (by omega) (by omega) h3 h4 h2
    rw [Int.mul_comm] at m3 m4
    go_enter Tryd.func18, Tryd.ntmps18
    go_wp2_with (first | (go_at_call 22; refine (rcheck_ok _ _ _ _ _ _ H.out).mono ?_; rintro e w1 ⟨rfl, hb⟩; obtain ⟨hc, hf⟩ := bcell hb; have hz := hb.size; simp only [World.size_alloc] at hz) | go_in)
    all_goals go_ret2
    all_goals exact ⟨ret2 (by rw [bgV, if_pos H.out]; rw [Int.mul_comm]) (by rw [chkE, if_pos H.out]), (by repeat (first | exact Old.refl _ | exact hb | apply Old.alloc | apply Old.then (k := hb)))⟩

set_option maxHeartbeats 400000 in
theorem rbound_any (C N S K Q : Int) (w : World) :
    Calls Tryd.prog 19 #[.agg #[.int .i64 C, .int .i64 N, .int .i64 S, .int .i64 K, .int .i64 Q]] w fun e w' => e = .returned (.tuple #[.int .i64 (bdV C N S K Q), .int .i64 (chkE C N S K Q)]) ∧ Below w.heap.size w w' := by
  cases h : okC C N S K Q
  · have H := Lib.hid h
    clear h
    go_enter Tryd.func19, Tryd.ntmps19
    go_wp2_with (first | (go_at_call 22; refine (rcheck_bad _ _ _ _ _ _ H.out).mono ?_; rintro e w1 ⟨rfl, hb⟩; obtain ⟨hc, hf⟩ := bcell hb; have hz := hb.size; simp only [World.size_alloc] at hz) | go_in)
    go_ret2
    exact ⟨by simp [bdV, chkE, H.out], (by repeat (first | exact Old.refl _ | exact hb | apply Old.alloc | apply Old.then (k := hb)))⟩
  · have H := Lib.hid h
    clear h
    have h := H.out
    obtain ⟨h1, h2, h3, h4, h5, h6, h7, h8, h9, h10⟩ := okC_bounds h
    clear h
    obtain ⟨m1, m2⟩ := mul_bounds h1 h2 h3 h4
    obtain ⟨s1, s2⟩ := sq_bounds h1 h2
    obtain ⟨t1, t2⟩ := cube_bounds s1 s2 m1 m2
    go_enter Tryd.func19, Tryd.ntmps19
    go_wp2_with (first | (go_at_call 22; refine (rcheck_ok _ _ _ _ _ _ H.out).mono ?_; rintro e w1 ⟨rfl, hb⟩; obtain ⟨hc, hf⟩ := bcell hb; have hz := hb.size; simp only [World.size_alloc] at hz) | go_in)
    all_goals go_ret2
    all_goals exact ⟨ret2 (by rw [bdV, if_pos H.out]) (by rw [chkE, if_pos H.out]), (by repeat (first | exact Old.refl _ | exact hb | apply Old.alloc | apply Old.then (k := hb)))⟩

theorem rwords_is (C N S K Q v x : Int) (w : World) (h : wdV C N S K Q = v ∧ chkE C N S K Q = x) :
    Calls Tryd.prog 15 #[.agg #[.int .i64 C, .int .i64 N, .int .i64 S, .int .i64 K, .int .i64 Q]] w fun e w' => e = .returned (.tuple #[.int .i64 v, .int .i64 x]) ∧ Below w.heap.size w w' := by
  obtain ⟨rfl, rfl⟩ := h
  exact rwords_any C N S K Q w

theorem rlargest_is (C N S K Q v x : Int) (w : World) (h : lgV C N S K Q = v ∧ chkE C N S K Q = x) :
    Calls Tryd.prog 17 #[.agg #[.int .i64 C, .int .i64 N, .int .i64 S, .int .i64 K, .int .i64 Q]] w fun e w' => e = .returned (.tuple #[.int .i64 v, .int .i64 x]) ∧ Below w.heap.size w w' := by
  obtain ⟨rfl, rfl⟩ := h
  exact rlargest_any C N S K Q w

set_option maxHeartbeats 1000000 in
theorem rspace_any (C N S K Q car : Int) (w : World) :
    Calls Tryd.prog 24 #[.agg #[.int .i64 C, .int .i64 N, .int .i64 S, .int .i64 K, .int .i64 Q], .int .i64 car] w fun e w' => e = .returned (.tuple #[.int .i64 (spS C N S K Q car), .int .i64 (spE C N S K Q car), .int .i64 (spX C N S K Q car)]) ∧ Below w.heap.size w w' := by
  cases h : okC C N S K Q
  · have H := Lib.hid h
    clear h
    go_enter Tryd.func24, Tryd.ntmps24
    go_wp2_with (first | (go_at_call 22; refine (rcheck_bad _ _ _ _ _ _ H.out).mono ?_; rintro e w1 ⟨rfl, hb⟩; obtain ⟨hc, hf⟩ := bcell hb; have hz := hb.size; simp only [World.size_alloc] at hz) | (go_at_call 39; refine (in_any _ _ _ _).mono ?_; rintro e w2 ⟨rfl, rfl⟩))
    go_ret3
    exact ⟨ret3 (by simp [spS, spOk, H.out]) (by simp [spE, spOk, H.out]) (by simp [spX, spOk, H.out]), (by repeat (first | exact Old.refl _ | exact hb | apply Old.drewN | apply Old.drew | apply Old.alloc | apply Old.then (k := hb)))⟩
  · have H := Lib.hid h
    clear h
    have h := H.out
    obtain ⟨h1, h2, h3, h4, h5, h6, h7, h8, h9, h10⟩ := okC_bounds h
    clear h
    by_cases hr : -1 ≤ car ∧ car < N
    · obtain ⟨r1, r2⟩ := hr
      have HR : Hid (spOk C N S K Q car = true) := by simp [Hid, spOk, H.out, r1, r2]
      by_cases hn : car < 0
      · have n1 : (decide (car < 0)) = true := by simp [hn]
        have i1 : inB car (-1) (N - 1) = true := by simp only [inB, decide_eq_true_eq]; omega
        go_enter Tryd.func24, Tryd.ntmps24
        go_wp2_with (first | (go_at_call 22; refine (rcheck_ok _ _ _ _ _ _ H.out).mono ?_; rintro e w1 ⟨rfl, hb⟩; obtain ⟨hc, hf⟩ := bcell hb; have hz := hb.size; simp only [World.size_alloc] at hz) | (go_at_call 39; refine (in_any _ _ _ _).mono ?_; rintro e w2 ⟨rfl, rfl⟩))
        go_quiet (fail)
        go_wp2
        go_ret3
        exact ⟨ret3 (by rw [spS, if_pos HR.out, if_pos hn]) (by rw [spE, if_pos HR.out, if_pos hn]) (by rw [spX, if_pos HR.out]), (by repeat (first | exact Old.refl _ | exact hb | apply Old.drewN | apply Old.drew | apply Old.alloc | apply Old.then (k := hb)))⟩
      · have n1 : 0 ≤ car := by omega
        clear hn
        obtain ⟨m1, m2, m3⟩ := mul_upto (C := C) (k := car) (m := N) n1 (by omega) h3 h4 h2
        have i1 : inB car (-1) (N - 1) = true := by simp only [inB, decide_eq_true_eq]; omega
        go_enter Tryd.func24, Tryd.ntmps24
        go_wp2_with (first | (go_at_call 22; refine (rcheck_ok _ _ _ _ _ _ H.out).mono ?_; rintro e w1 ⟨rfl, hb⟩; obtain ⟨hc, hf⟩ := bcell hb; have hz := hb.size; simp only [World.size_alloc] at hz) | (go_at_call 39; refine (in_any _ _ _ _).mono ?_; rintro e w2 ⟨rfl, rfl⟩))
        have q1 : IntKind.i64.wrap (1 + S + car * C + C) = 1 + S + car * C + C := IntWalk.i64_in _ (by omega)
        go_quiet (fail)
        go_wp2
        go_ret3
        exact ⟨ret3 (by rw [spS, if_pos HR.out, if_neg (by omega)]) (by rw [spE, if_pos HR.out, if_neg (by omega)]) (by rw [spX, if_pos HR.out]), (by repeat (first | exact Old.refl _ | exact hb | apply Old.drewN | apply Old.drew | apply Old.alloc | apply Old.then (k := hb)))⟩
    · have HR : Hid (spOk C N S K Q car = false) := by simp only [Hid, spOk, H.out, Bool.true_and, decide_eq_false_iff_not]; exact hr
      have hr' : car < -1 ∨ N ≤ car := by omega
      clear hr
      have i1 : inB car (-1) (N - 1) = false := by simp only [inB, decide_eq_false_iff_not]; omega
      rcases hr' with hr | hr
      all_goals go_enter Tryd.func24, Tryd.ntmps24
      all_goals go_wp2_with (first | (go_at_call 22; refine (rcheck_ok _ _ _ _ _ _ H.out).mono ?_; rintro e w1 ⟨rfl, hb⟩; obtain ⟨hc, hf⟩ := bcell hb; have hz := hb.size; simp only [World.size_alloc] at hz) | (go_at_call 39; refine (in_any _ _ _ _).mono ?_; rintro e w2 ⟨rfl, rfl⟩))
      all_goals go_ret3
      all_goals exact ⟨ret3 (by simp [spS, HR.out]) (by simp [spE, HR.out]) (by simp [spX, HR.out]), (by repeat (first | exact Old.refl _ | exact hb | apply Old.drewN | apply Old.drew | apply Old.alloc | apply Old.then (k := hb)))⟩

theorem rspace_is (C N S K Q a p q x : Int) (w : World) (h : spS C N S K Q a = p ∧ spE C N S K Q a = q ∧ spX C N S K Q a = x) :
    Calls Tryd.prog 24 #[.agg #[.int .i64 C, .int .i64 N, .int .i64 S, .int .i64 K, .int .i64 Q], .int .i64 a] w fun e w' => e = .returned (.tuple #[.int .i64 p, .int .i64 q, .int .i64 x]) ∧ Below w.heap.size w w' := by
  obtain ⟨rfl, rfl, rfl⟩ := h
  exact rspace_any C N S K Q a w

set_option maxHeartbeats 1000000 in
theorem raddress_any (C N S K Q car off : Int) (w : World) :
    Calls Tryd.prog 30 #[.agg #[.int .i64 C, .int .i64 N, .int .i64 S, .int .i64 K, .int .i64 Q], .int .i64 car, .int .i64 off] w fun e w' => e = .returned (.tuple #[.int .i64 (adV C N S K Q car off), .int .i64 (adX C N S K Q car off)]) ∧ Below w.heap.size w w' := by
  cases h : spOk C N S K Q car
  · have H := Lib.hid h
    have HW : Hid (spS C N S K Q car = 0 ∧ spE C N S K Q car = 0 ∧ spX C N S K Q car = 7) := by simp [Hid, spS, spE, spX, h]
    clear h
    go_enter Tryd.func30, Tryd.ntmps30
    go_wp2_with (first | (go_at_call 24; refine ((rspace_is _ _ _ _ _ _ _ _ _ _ HW.out)).mono ?_; rintro e w1 ⟨rfl, hb⟩; obtain ⟨hc, hf⟩ := bcell hb; have hz := hb.size; simp only [World.size_alloc] at hz) | (go_at_call 39; refine (in_any _ _ _ _).mono ?_; rintro e w2 ⟨rfl, rfl⟩))
    go_ret2
    exact ⟨ret2 (by simp [adV, adOk, H.out]) (by simp [adX, adOk, H.out]), (by repeat (first | exact Old.refl _ | exact hb | apply Old.drewN | apply Old.drew | apply Old.alloc | apply Old.then (k := hb)))⟩
  · have H := Lib.hid h
    obtain ⟨b1, b2, b3, b4⟩ := sp_bounds h
    obtain ⟨p, hp⟩ : ∃ p, spS C N S K Q car = p := ⟨_, rfl⟩
    obtain ⟨q, hq⟩ : ∃ q, spE C N S K Q car = q := ⟨_, rfl⟩
    rw [hp, hq] at b2
    rw [hp] at b1
    rw [hq] at b3
    have HW : Hid (spS C N S K Q car = p ∧ spE C N S K Q car = q ∧ spX C N S K Q car = 0) := ⟨hp, hq, by simp [spX, h]⟩
    clear h hp hq
    have b5 : q ≤ 1601 := by omega
    clear b3 b4
    by_cases hr : 0 ≤ off ∧ off < q - p
    · obtain ⟨r1, r2⟩ := hr
      have HR : Hid (adOk C N S K Q car off = true) := by simp [Hid, adOk, H.out, HW.out.1, HW.out.2.1, r1, r2]
      have i1 : inB off 0 (q - p - 1) = true := by simp only [inB, decide_eq_true_eq]; omega
      go_enter Tryd.func30, Tryd.ntmps30
      go_wp2_with (first | (go_at_call 24; refine ((rspace_is _ _ _ _ _ _ _ _ _ _ HW.out)).mono ?_; rintro e w1 ⟨rfl, hb⟩; obtain ⟨hc, hf⟩ := bcell hb; have hz := hb.size; simp only [World.size_alloc] at hz) | (go_at_call 39; refine (in_any _ _ _ _).mono ?_; rintro e w2 ⟨rfl, rfl⟩))
      go_ret2
      exact ⟨ret2 (by rw [adV, if_pos HR.out, HW.out.1]) (by rw [adX, if_pos HR.out]), (by repeat (first | exact Old.refl _ | exact hb | apply Old.drewN | apply Old.drew | apply Old.alloc | apply Old.then (k := hb)))⟩
    · have HR : Hid (adOk C N S K Q car off = false) := by simp only [Hid, adOk, H.out, HW.out.1, HW.out.2.1, Bool.true_and, decide_eq_false_iff_not]; exact hr
      have hr' : off < 0 ∨ q - p ≤ off := by omega
      clear hr
      have i1 : inB off 0 (q - p - 1) = false := by simp only [inB, decide_eq_false_iff_not]; omega
      rcases hr' with hr | hr
      all_goals go_enter Tryd.func30, Tryd.ntmps30
      all_goals go_wp2_with (first | (go_at_call 24; refine ((rspace_is _ _ _ _ _ _ _ _ _ _ HW.out)).mono ?_; rintro e w1 ⟨rfl, hb⟩; obtain ⟨hc, hf⟩ := bcell hb; have hz := hb.size; simp only [World.size_alloc] at hz) | (go_at_call 39; refine (in_any _ _ _ _).mono ?_; rintro e w2 ⟨rfl, rfl⟩))
      all_goals go_ret2
      all_goals exact ⟨ret2 (by simp [adV, HR.out]) (by simp [adX, HR.out]), (by repeat (first | exact Old.refl _ | exact hb | apply Old.drewN | apply Old.drew | apply Old.alloc | apply Old.then (k := hb)))⟩

set_option maxHeartbeats 1000000 in
theorem rfits_any (C N S K Q n : Int) (w : World) :
    Calls Tryd.prog 21 #[.agg #[.int .i64 C, .int .i64 N, .int .i64 S, .int .i64 K, .int .i64 Q], .int .i64 n] w fun e w' => e = .returned (.tuple #[.bool (ftB C N S K Q n), .int .i64 (chkE C N S K Q)]) ∧ Below w.heap.size w w' := by
  cases h : okC C N S K Q
  · have H := Lib.hid h
    have HW : Hid (lgV C N S K Q = 0 ∧ chkE C N S K Q = 7) := by simp [Hid, lgV, chkE, h]
    clear h
    go_enter Tryd.func21, Tryd.ntmps21
    go_wp2_with (first | (go_at_call 17; refine ((rlargest_is _ _ _ _ _ _ _ _ HW.out)).mono ?_; rintro e w1 ⟨rfl, hb⟩; obtain ⟨hc, hf⟩ := bcell hb; have hz := hb.size; simp only [World.size_alloc] at hz) | (go_at_call 39; refine (in_any _ _ _ _).mono ?_; rintro e w2 ⟨rfl, rfl⟩))
    go_ret2
    exact ⟨retb (by simp [ftB, H.out]) HW.out.2, (by repeat (first | exact Old.refl _ | exact hb | apply Old.drewN | apply Old.drew | apply Old.alloc | apply Old.then (k := hb)))⟩
  · have H := Lib.hid h
    obtain ⟨m, hm⟩ : ∃ m, lgV C N S K Q = m := ⟨_, rfl⟩
    have HW : Hid (lgV C N S K Q = m ∧ chkE C N S K Q = 0) := ⟨hm, by simp [chkE, h]⟩
    clear h hm
    by_cases hr : 1 ≤ n ∧ n ≤ m
    · obtain ⟨r1, r2⟩ := hr
      have i1 : inB n 1 m = true := by simp only [inB, decide_eq_true_eq]; omega
      go_enter Tryd.func21, Tryd.ntmps21
      go_wp2_with (first | (go_at_call 17; refine ((rlargest_is _ _ _ _ _ _ _ _ HW.out)).mono ?_; rintro e w1 ⟨rfl, hb⟩; obtain ⟨hc, hf⟩ := bcell hb; have hz := hb.size; simp only [World.size_alloc] at hz) | (go_at_call 39; refine (in_any _ _ _ _).mono ?_; rintro e w2 ⟨rfl, rfl⟩))
      go_ret2
      exact ⟨retb (by simp [ftB, H.out, HW.out.1, r1, r2]) HW.out.2, (by repeat (first | exact Old.refl _ | exact hb | apply Old.drewN | apply Old.drew | apply Old.alloc | apply Old.then (k := hb)))⟩
    · have hr' : n < 1 ∨ m < n := by omega
      have i1 : inB n 1 m = false := by simp only [inB, decide_eq_false_iff_not]; omega
      rcases hr' with hr' | hr'
      all_goals go_enter Tryd.func21, Tryd.ntmps21
      all_goals go_wp2_with (first | (go_at_call 17; refine ((rlargest_is _ _ _ _ _ _ _ _ HW.out)).mono ?_; rintro e w1 ⟨rfl, hb⟩; obtain ⟨hc, hf⟩ := bcell hb; have hz := hb.size; simp only [World.size_alloc] at hz) | (go_at_call 39; refine (in_any _ _ _ _).mono ?_; rintro e w2 ⟨rfl, rfl⟩))
      all_goals go_ret2
      all_goals exact ⟨retb (by simp only [ftB, H.out, HW.out.1, Bool.true_and]; simp; omega) HW.out.2, (by repeat (first | exact Old.refl _ | exact hb | apply Old.drewN | apply Old.drew | apply Old.alloc | apply Old.then (k := hb)))⟩

end Go.Proofs.YtdfciaeeciaadaaDoor

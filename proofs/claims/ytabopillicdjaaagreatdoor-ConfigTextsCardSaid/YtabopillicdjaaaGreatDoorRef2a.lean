/- The reference of chapter 2. -/
import Derived.Test.YtabopillicdjaaaGreatDoorCfg3
namespace Go.Proofs.YtabopillicdjaaaGreatDoor
open Go.RowKit

theorem ret1 {k : IntKind} {a b : Int} (h : a = b) : Ending.returned (.int k a) = .returned (.int k b) := by rw [h]
set_option maxHeartbeats 400000 in
theorem in_any (n low high : Int) (w : World) :
    Calls Tryz.prog 78 #[.int .i64 n, .int .i64 low, .int .i64 high] w fun e w' => e = .returned (.bool (inB n low high)) ∧ w = w' := by
  by_cases h1 : low ≤ n
  · by_cases h2 : n ≤ high
    · go_enter Tryz.func78, Tryz.ntmps78
      go_wp2
      go_ret
      exact ⟨by simp [inB, h1, h2], rfl⟩
    · go_enter Tryz.func78, Tryz.ntmps78
      go_wp2
      go_ret
      exact ⟨by simp [inB]; omega, rfl⟩
  · have h3 : n < low := by omega
    clear h1
    go_enter Tryz.func78, Tryz.ntmps78
    go_wp2
    go_ret
    exact ⟨by simp [inB]; omega, rfl⟩

set_option maxHeartbeats 1000000 in
theorem rcheck_any (C N S K Q : Int) (w : World) :
    Calls Tryz.prog 49 #[.agg #[.int .i64 C, .int .i64 N, .int .i64 S, .int .i64 K, .int .i64 Q]] w (CheckPost C N S K Q w) := by
  cases i1 : inB C 8 64
  · skip
    go_enter Tryz.func49, Tryz.ntmps49
    go_wp2_with (first | (go_at_call 78; refine (in_any _ _ _ _).mono ?_; rintro e w2 ⟨rfl, rfl⟩))
    go_ret
    exact ⟨ret1 (show (7 : Int) = chkE C N S K Q from by simp [chkE, okC_in, i1]), (by repeat (first | exact Old.refl _ | exact hb | apply Old.drewN | apply Old.drew | apply Old.alloc | apply Old.then (k := hb)))⟩
  · skip
    cases i2 : inB N 7 24
    · skip
      go_enter Tryz.func49, Tryz.ntmps49
      go_wp2_with (first | (go_at_call 78; refine (in_any _ _ _ _).mono ?_; rintro e w2 ⟨rfl, rfl⟩))
      go_ret
      exact ⟨ret1 (show (7 : Int) = chkE C N S K Q from by simp [chkE, okC_in, i1, i2]), (by repeat (first | exact Old.refl _ | exact hb | apply Old.drewN | apply Old.drew | apply Old.alloc | apply Old.then (k := hb)))⟩
    · skip
      cases i3 : inB S 4 64
      · skip
        go_enter Tryz.func49, Tryz.ntmps49
        go_wp2_with (first | (go_at_call 78; refine (in_any _ _ _ _).mono ?_; rintro e w2 ⟨rfl, rfl⟩))
        go_ret
        exact ⟨ret1 (show (7 : Int) = chkE C N S K Q from by simp [chkE, okC_in, i1, i2, i3]), (by repeat (first | exact Old.refl _ | exact hb | apply Old.drewN | apply Old.drew | apply Old.alloc | apply Old.then (k := hb)))⟩
      · skip
        cases i4 : inB K 1 8
        · skip
          go_enter Tryz.func49, Tryz.ntmps49
          go_wp2_with (first | (go_at_call 78; refine (in_any _ _ _ _).mono ?_; rintro e w2 ⟨rfl, rfl⟩))
          go_ret
          exact ⟨ret1 (show (7 : Int) = chkE C N S K Q from by simp [chkE, okC_in, i1, i2, i3, i4]), (by repeat (first | exact Old.refl _ | exact hb | apply Old.drewN | apply Old.drew | apply Old.alloc | apply Old.then (k := hb)))⟩
        · skip
          cases i5 : inB Q 2 16
          · skip
            go_enter Tryz.func49, Tryz.ntmps49
            go_wp2_with (first | (go_at_call 78; refine (in_any _ _ _ _).mono ?_; rintro e w2 ⟨rfl, rfl⟩))
            go_ret
            exact ⟨ret1 (show (7 : Int) = chkE C N S K Q from by simp [chkE, okC_in, i1, i2, i3, i4, i5]), (by repeat (first | exact Old.refl _ | exact hb | apply Old.drewN | apply Old.drew | apply Old.alloc | apply Old.then (k := hb)))⟩
          · skip
            go_enter Tryz.func49, Tryz.ntmps49
            go_wp2_with (first | (go_at_call 78; refine (in_any _ _ _ _).mono ?_; rintro e w2 ⟨rfl, rfl⟩))
            go_ret
            exact ⟨ret1 (show (0 : Int) = chkE C N S K Q from by simp [chkE, okC_in, i1, i2, i3, i4, i5]), (by repeat (first | exact Old.refl _ | exact hb | apply Old.drewN | apply Old.drew | apply Old.alloc | apply Old.then (k := hb)))⟩
theorem rcheck_ok (C N S K Q : Int) (w : World) (h : okC C N S K Q = true) :
    Calls Tryz.prog 49 #[.agg #[.int .i64 C, .int .i64 N, .int .i64 S, .int .i64 K, .int .i64 Q]] w fun e w' => e = .returned (.int .i64 0) ∧ Below w.heap.size w w' := by
  refine (rcheck_any C N S K Q w).mono fun e w' h' => ?_
  obtain ⟨h1, h2⟩ := h'
  rw [h1, chkE, if_pos h]
  exact ⟨rfl, h2⟩
theorem rcheck_bad (C N S K Q : Int) (w : World) (h : okC C N S K Q = false) :
    Calls Tryz.prog 49 #[.agg #[.int .i64 C, .int .i64 N, .int .i64 S, .int .i64 K, .int .i64 Q]] w fun e w' => e = .returned (.int .i64 7) ∧ Below w.heap.size w w' := by
  refine (rcheck_any C N S K Q w).mono fun e w' h' => ?_
  obtain ⟨h1, h2⟩ := h'
  rw [h1, chkE, if_neg (by simp [h])]
  exact ⟨rfl, h2⟩

end Go.Proofs.YtabopillicdjaaaGreatDoor

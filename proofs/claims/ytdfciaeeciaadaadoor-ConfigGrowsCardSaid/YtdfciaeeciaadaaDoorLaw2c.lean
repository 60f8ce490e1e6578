/- ConfigRoom: the walk. -/
import Derived.Test.YtdfciaeeciaadaaDoorLaw2a
namespace Go.Proofs.YtdfciaeeciaadaaDoor
open Go.RowKit

theorem lg_bounds {C N S K Q : Int} (h : okC C N S K Q = true) : 4 ≤ lgV C N S K Q ∧ lgV C N S K Q ≤ S ∧ 2 * lgV C N S K Q ≤ C ∧ lgV C N S K Q ≤ 32 := by
  obtain ⟨h1, h2, h3, h4, h5, h6, h7, h8, h9, h10⟩ := okC_bounds h
  rw [lgV, if_pos h]
  omega
theorem bg_bounds {C N S K Q : Int} (h : okC C N S K Q = true) : C ≤ bgV C N S K Q ∧ bgV C N S K Q ≤ N * C - 6 * C ∧ bgV C N S K Q ≤ 1536 := by
  obtain ⟨h1, h2, h3, h4, h5, h6, h7, h8, h9, h10⟩ := okC_bounds h
  rw [bgV, if_pos h]
  have m := mul_bounds h1 h2 h3 h4
  have e : (N - 6) * C = N * C - 6 * C := Int.sub_mul _ _ _
  have g := Int.mul_le_mul_of_nonneg_right (show (1 : Int) ≤ N - 6 by omega) (show (0 : Int) ≤ C by omega)
  omega

set_option maxRecDepth 100000 in
set_option maxHeartbeats 2000000 in
theorem room_walk (C N S K Q n : Int) (w : World) :
    Calls Tryd.prog 6 #[.agg #[.int .i64 C, .int .i64 N, .int .i64 S, .int .i64 K, .int .i64 Q], .int .i64 n] w fun e w' => e = .returned (.bool true) ∧ Below w.heap.size w w' := by
  have hx0 := BoxS.new w #[.int .i64 C, .int .i64 N, .int .i64 S, .int .i64 K, .int .i64 Q] 23
  cases h : okC C N S K Q
  · have e1 : chkE C N S K Q = 7 := by simp [chkE, h]
    have e2 : ftB C N S K Q n = false := by simp [ftB, h]
    clear h
    go_enter Tryd.func6, Tryd.ntmps6
    go_wp2_with (first | (go_at_call 20; refine (fits_any _ _ _ _ _ _ _).mono ?_; rintro e w1 ⟨rfl, hb⟩; have hx := BoxS.then (b := w.heap.size) (cs := #[.int .i64 C, .int .i64 N, .int .i64 S, .int .i64 K, .int .i64 Q]) (by assumption) hb; have c0 := hx.2 0 _ rfl; have c1 := hx.2 1 _ rfl; have c2 := hx.2 2 _ rfl; have c3 := hx.2 3 _ rfl; have c4 := hx.2 4 _ rfl; simp only [List.getElem_toArray, List.getElem_cons_zero, List.getElem_cons_succ] at c0 c1 c2 c3 c4) | (go_at_call 11; refine (awake_any _).mono ?_; rintro e w1 ⟨rfl, hb⟩; have hx := BoxS.then (b := w.heap.size) (cs := #[.int .i64 C, .int .i64 N, .int .i64 S, .int .i64 K, .int .i64 Q]) (by assumption) hb; have c0 := hx.2 0 _ rfl; have c1 := hx.2 1 _ rfl; have c2 := hx.2 2 _ rfl; have c3 := hx.2 3 _ rfl; have c4 := hx.2 4 _ rfl; simp only [List.getElem_toArray, List.getElem_cons_zero, List.getElem_cons_succ] at c0 c1 c2 c3 c4))
    go_ret
    exact ⟨rfl, (by repeat (first | exact Old.refl _ | (refine Old.then ?_ (by assumption)) | apply Old.drewN | apply Old.drew | apply Old.alloc))⟩
  · have e1 : chkE C N S K Q = 0 := by simp [chkE, h]
    obtain ⟨h1, h2, h3, h4, h5, h6, h7, h8, h9, h10⟩ := okC_bounds h
    obtain ⟨m1, m2⟩ := mul_bounds h1 h2 h3 h4
    obtain ⟨l1, l2, l3, l4⟩ := lg_bounds h
    obtain ⟨b1, b2, b3⟩ := bg_bounds h
    have f0 : ftB C N S K Q 0 = false := by simp [ftB]
    have f1 : ftB C N S K Q (lgV C N S K Q) = true := by simp [ftB, h]; omega
    have f2 : ftB C N S K Q (lgV C N S K Q + 1) = false := by simp [ftB]; omega
    have f3 : ftB C N S K Q n = decide (1 ≤ n ∧ n ≤ lgV C N S K Q) := by simp [ftB, h]
    obtain ⟨m, hm⟩ : ∃ m, lgV C N S K Q = m := ⟨_, rfl⟩
    obtain ⟨b, hb⟩ : ∃ b, bgV C N S K Q = b := ⟨_, rfl⟩
    rw [hm] at l1 l2 l3 l4 f1 f2 f3
    rw [hb] at b1 b2 b3
    clear h
    by_cases hr : 1 ≤ n ∧ n ≤ m
    · have e2 : ftB C N S K Q n = true := by rw [f3]; simpa using hr
      obtain ⟨r1, r2⟩ := hr
      clear f3
      go_enter Tryd.func6, Tryd.ntmps6
      go_wp2_with (first | (go_at_call 20; refine (fits_any _ _ _ _ _ _ _).mono ?_; rintro e w1 ⟨rfl, hb⟩; have hx := BoxS.then (b := w.heap.size) (cs := #[.int .i64 C, .int .i64 N, .int .i64 S, .int .i64 K, .int .i64 Q]) (by assumption) hb; have c0 := hx.2 0 _ rfl; have c1 := hx.2 1 _ rfl; have c2 := hx.2 2 _ rfl; have c3 := hx.2 3 _ rfl; have c4 := hx.2 4 _ rfl; simp only [List.getElem_toArray, List.getElem_cons_zero, List.getElem_cons_succ] at c0 c1 c2 c3 c4) | (go_at_call 13; refine (budget_any _ _ _ _ _ _).mono ?_; rintro e w1 ⟨rfl, hb⟩; have hx := BoxS.then (b := w.heap.size) (cs := #[.int .i64 C, .int .i64 N, .int .i64 S, .int .i64 K, .int .i64 Q]) (by assumption) hb; have c0 := hx.2 0 _ rfl; have c1 := hx.2 1 _ rfl; have c2 := hx.2 2 _ rfl; have c3 := hx.2 3 _ rfl; have c4 := hx.2 4 _ rfl; simp only [List.getElem_toArray, List.getElem_cons_zero, List.getElem_cons_succ] at c0 c1 c2 c3 c4) | (go_at_call 16; refine (largest_any _ _ _ _ _ _).mono ?_; rintro e w1 ⟨rfl, hb⟩; have hx := BoxS.then (b := w.heap.size) (cs := #[.int .i64 C, .int .i64 N, .int .i64 S, .int .i64 K, .int .i64 Q]) (by assumption) hb; have c0 := hx.2 0 _ rfl; have c1 := hx.2 1 _ rfl; have c2 := hx.2 2 _ rfl; have c3 := hx.2 3 _ rfl; have c4 := hx.2 4 _ rfl; simp only [List.getElem_toArray, List.getElem_cons_zero, List.getElem_cons_succ] at c0 c1 c2 c3 c4) | (go_at_call 11; refine (awake_any _).mono ?_; rintro e w1 ⟨rfl, hb⟩; have hx := BoxS.then (b := w.heap.size) (cs := #[.int .i64 C, .int .i64 N, .int .i64 S, .int .i64 K, .int .i64 Q]) (by assumption) hb; have c0 := hx.2 0 _ rfl; have c1 := hx.2 1 _ rfl; have c2 := hx.2 2 _ rfl; have c3 := hx.2 3 _ rfl; have c4 := hx.2 4 _ rfl; simp only [List.getElem_toArray, List.getElem_cons_zero, List.getElem_cons_succ] at c0 c1 c2 c3 c4))
      go_ret
      exact ⟨rfl, (by repeat (first | exact Old.refl _ | (refine Old.then ?_ (by assumption)) | apply Old.drewN | apply Old.drew | apply Old.alloc))⟩
    · have e2 : ftB C N S K Q n = false := by rw [f3]; simpa using hr
      have hr' : n < 1 ∨ m < n := by omega
      clear f3 hr
      rcases hr' with hr | hr
      · go_enter Tryd.func6, Tryd.ntmps6
        go_wp2_with (first | (go_at_call 20; refine (fits_any _ _ _ _ _ _ _).mono ?_; rintro e w1 ⟨rfl, hb⟩; have hx := BoxS.then (b := w.heap.size) (cs := #[.int .i64 C, .int .i64 N, .int .i64 S, .int .i64 K, .int .i64 Q]) (by assumption) hb; have c0 := hx.2 0 _ rfl; have c1 := hx.2 1 _ rfl; have c2 := hx.2 2 _ rfl; have c3 := hx.2 3 _ rfl; have c4 := hx.2 4 _ rfl; simp only [List.getElem_toArray, List.getElem_cons_zero, List.getElem_cons_succ] at c0 c1 c2 c3 c4) | (go_at_call 13; refine (budget_any _ _ _ _ _ _).mono ?_; rintro e w1 ⟨rfl, hb⟩; have hx := BoxS.then (b := w.heap.size) (cs := #[.int .i64 C, .int .i64 N, .int .i64 S, .int .i64 K, .int .i64 Q]) (by assumption) hb; have c0 := hx.2 0 _ rfl; have c1 := hx.2 1 _ rfl; have c2 := hx.2 2 _ rfl; have c3 := hx.2 3 _ rfl; have c4 := hx.2 4 _ rfl; simp only [List.getElem_toArray, List.getElem_cons_zero, List.getElem_cons_succ] at c0 c1 c2 c3 c4) | (go_at_call 16; refine (largest_any _ _ _ _ _ _).mono ?_; rintro e w1 ⟨rfl, hb⟩; have hx := BoxS.then (b := w.heap.size) (cs := #[.int .i64 C, .int .i64 N, .int .i64 S, .int .i64 K, .int .i64 Q]) (by assumption) hb; have c0 := hx.2 0 _ rfl; have c1 := hx.2 1 _ rfl; have c2 := hx.2 2 _ rfl; have c3 := hx.2 3 _ rfl; have c4 := hx.2 4 _ rfl; simp only [List.getElem_toArray, List.getElem_cons_zero, List.getElem_cons_succ] at c0 c1 c2 c3 c4) | (go_at_call 11; refine (awake_any _).mono ?_; rintro e w1 ⟨rfl, hb⟩; have hx := BoxS.then (b := w.heap.size) (cs := #[.int .i64 C, .int .i64 N, .int .i64 S, .int .i64 K, .int .i64 Q]) (by assumption) hb; have c0 := hx.2 0 _ rfl; have c1 := hx.2 1 _ rfl; have c2 := hx.2 2 _ rfl; have c3 := hx.2 3 _ rfl; have c4 := hx.2 4 _ rfl; simp only [List.getElem_toArray, List.getElem_cons_zero, List.getElem_cons_succ] at c0 c1 c2 c3 c4))
        go_ret
        exact ⟨rfl, (by repeat (first | exact Old.refl _ | (refine Old.then ?_ (by assumption)) | apply Old.drewN | apply Old.drew | apply Old.alloc))⟩
      · have hd : decide (n ≤ m) = false := by simp; omega
        go_enter Tryd.func6, Tryd.ntmps6
        go_wp2_with (first | (go_at_call 20; refine (fits_any _ _ _ _ _ _ _).mono ?_; rintro e w1 ⟨rfl, hb⟩; have hx := BoxS.then (b := w.heap.size) (cs := #[.int .i64 C, .int .i64 N, .int .i64 S, .int .i64 K, .int .i64 Q]) (by assumption) hb; have c0 := hx.2 0 _ rfl; have c1 := hx.2 1 _ rfl; have c2 := hx.2 2 _ rfl; have c3 := hx.2 3 _ rfl; have c4 := hx.2 4 _ rfl; simp only [List.getElem_toArray, List.getElem_cons_zero, List.getElem_cons_succ] at c0 c1 c2 c3 c4) | (go_at_call 13; refine (budget_any _ _ _ _ _ _).mono ?_; rintro e w1 ⟨rfl, hb⟩; have hx := BoxS.then (b := w.heap.size) (cs := #[.int .i64 C, .int .i64 N, .int .i64 S, .int .i64 K, .int .i64 Q]) (by assumption) hb; have c0 := hx.2 0 _ rfl; have c1 := hx.2 1 _ rfl; have c2 := hx.2 2 _ rfl; have c3 := hx.2 3 _ rfl; have c4 := hx.2 4 _ rfl; simp only [List.getElem_toArray, List.getElem_cons_zero, List.getElem_cons_succ] at c0 c1 c2 c3 c4) | (go_at_call 16; refine (largest_any _ _ _ _ _ _).mono ?_; rintro e w1 ⟨rfl, hb⟩; have hx := BoxS.then (b := w.heap.size) (cs := #[.int .i64 C, .int .i64 N, .int .i64 S, .int .i64 K, .int .i64 Q]) (by assumption) hb; have c0 := hx.2 0 _ rfl; have c1 := hx.2 1 _ rfl; have c2 := hx.2 2 _ rfl; have c3 := hx.2 3 _ rfl; have c4 := hx.2 4 _ rfl; simp only [List.getElem_toArray, List.getElem_cons_zero, List.getElem_cons_succ] at c0 c1 c2 c3 c4) | (go_at_call 11; refine (awake_any _).mono ?_; rintro e w1 ⟨rfl, hb⟩; have hx := BoxS.then (b := w.heap.size) (cs := #[.int .i64 C, .int .i64 N, .int .i64 S, .int .i64 K, .int .i64 Q]) (by assumption) hb; have c0 := hx.2 0 _ rfl; have c1 := hx.2 1 _ rfl; have c2 := hx.2 2 _ rfl; have c3 := hx.2 3 _ rfl; have c4 := hx.2 4 _ rfl; simp only [List.getElem_toArray, List.getElem_cons_zero, List.getElem_cons_succ] at c0 c1 c2 c3 c4))
        all_goals go_ret
        all_goals exact ⟨rfl, (by repeat (first | exact Old.refl _ | (refine Old.then ?_ (by assumption)) | apply Old.drewN | apply Old.drew | apply Old.alloc))⟩
end Go.Proofs.YtdfciaeeciaadaaDoor

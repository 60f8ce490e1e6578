/- ConfigKnown: the walk. -/
import Derived.Test.YtdfciaeeciaadaaDoorAwake
import Derived.Test.YtdfciaeeciaadaaDoorRef2b
import Derived.Deep.RegionHeld3
import Derived.Deep.DrawnRows
namespace Go.Proofs.YtdfciaeeciaadaaDoor
open Go.RowKit
attribute [local go_sem ↓] Go.wp_at_zero Go.wp_at_succ

theorem largest_s (w : World) : Calls Tryd.prog 16 #[.agg #[.int .i64 8, .int .i64 7, .int .i64 4, .int .i64 1, .int .i64 2]] w fun e w' => e = .returned (.tuple #[.int .i64 4, .int .i64 0]) ∧ Below w.heap.size w w' :=
  largest_is 8 7 4 1 2 4 0 w (by decide)
theorem budget_s (w : World) : Calls Tryd.prog 13 #[.agg #[.int .i64 8, .int .i64 7, .int .i64 4, .int .i64 1, .int .i64 2]] w fun e w' => e = .returned (.tuple #[.int .i64 8, .int .i64 0]) ∧ Below w.heap.size w w' := by
  have h := budget_any 8 7 4 1 2 w
  rwa [show bgV 8 7 4 1 2 = 8 from by decide, show chkE 8 7 4 1 2 = 0 from by decide] at h
theorem space_m (w : World) : Calls Tryd.prog 23 #[.agg #[.int .i64 8, .int .i64 7, .int .i64 4, .int .i64 1, .int .i64 2], .int .i64 (-1)] w fun e w' => e = .returned (.tuple #[.int .i64 1, .int .i64 5, .int .i64 0]) ∧ Below w.heap.size w w' :=
  space_is 8 7 4 1 2 (-1) 1 5 0 w (by decide)
theorem car_m (w : World) : Calls Tryd.prog 25 #[.agg #[.int .i64 8, .int .i64 7, .int .i64 4, .int .i64 1, .int .i64 2], .int .i64 61] w fun e w' => e = .returned (.tuple #[.int .i64 0, .int .i64 7]) ∧ Below w.heap.size w w' := by
  have h := car_any 8 7 4 1 2 61 w
  rwa [show plC 8 7 4 1 2 61 = 0 from by decide, show plX 8 7 4 1 2 61 = 7 from by decide] at h
theorem address_m (w : World) : Calls Tryd.prog 29 #[.agg #[.int .i64 8, .int .i64 7, .int .i64 4, .int .i64 1, .int .i64 2], .int .i64 (-1), .int .i64 4] w fun e w' => e = .returned (.tuple #[.int .i64 0, .int .i64 7]) ∧ Below w.heap.size w w' := by
  have h := address_any 8 7 4 1 2 (-1) 4 w
  rwa [show adV 8 7 4 1 2 (-1) 4 = 0 from by decide, show adX 8 7 4 1 2 (-1) 4 = 7 from by decide] at h
theorem check_few (w : World) : Calls Tryd.prog 10 #[.agg #[.int .i64 8, .int .i64 6, .int .i64 4, .int .i64 1, .int .i64 2]] w fun e w' => e = .returned (.int .i64 7) ∧ Below w.heap.size w w' :=
  check_bad 8 6 4 1 2 w (by decide)
theorem ft4 : ftB 8 7 4 1 2 4 = true := by decide
theorem ft5 : ftB 8 7 4 1 2 5 = false := by decide
theorem ch0 : chkE 8 7 4 1 2 = 0 := by decide
theorem place_0 (w : World) : Calls Tryd.prog 27 #[.agg #[.int .i64 8, .int .i64 7, .int .i64 4, .int .i64 1, .int .i64 2], .int .i64 4] w fun e w' => e = .returned (.tuple #[.int .i64 (-1), .int .i64 3, .int .i64 0]) ∧ Below w.heap.size w w' :=
  place_is 8 7 4 1 2 4 (-1) 3 0 w (by decide)
theorem place_1 (w : World) : Calls Tryd.prog 27 #[.agg #[.int .i64 8, .int .i64 7, .int .i64 4, .int .i64 1, .int .i64 2], .int .i64 5] w fun e w' => e = .returned (.tuple #[.int .i64 (0), .int .i64 0, .int .i64 0]) ∧ Below w.heap.size w w' :=
  place_is 8 7 4 1 2 5 (0) 0 0 w (by decide)
theorem place_2 (w : World) : Calls Tryd.prog 27 #[.agg #[.int .i64 8, .int .i64 7, .int .i64 4, .int .i64 1, .int .i64 2], .int .i64 60] w fun e w' => e = .returned (.tuple #[.int .i64 (6), .int .i64 7, .int .i64 0]) ∧ Below w.heap.size w w' :=
  place_is 8 7 4 1 2 60 (6) 7 0 w (by decide)

/-- The three arrays of the call, and all that was there. -/
structure Kn (w : World) (b : Nat) (w' : World) : Prop where
  at_ : BoxS b #[.int .i64 4, .int .i64 5, .int .i64 60] w'
  car : BoxS (b + 1) #[.int .i64 (-1), .int .i64 0, .int .i64 6] w'
  off : BoxS (b + 2) #[.int .i64 3, .int .i64 0, .int .i64 7] w'
  old : Below w.heap.size w w'
theorem Kn.then {w : World} {b : Nat} {W w1 : World} (h : Kn w b W) (hb : Below W.heap.size W w1) : Kn w b w1 := ⟨h.at_.then hb, h.car.then hb, h.off.then hb, Old.then h.old hb⟩
theorem Kn.drew {w : World} {b : Nat} {W : World} (h : Kn w b W) : Kn w b W.drew := ⟨h.at_, h.car, h.off, Below.drew h.old⟩
theorem Kn.new {w w1 : World} (h : Below w.heap.size w w1) : Kn w w1.heap.size (((w1.alloc (.cells #[.int .i64 4, .int .i64 5, .int .i64 60] 40)).alloc (.cells #[.int .i64 (-1), .int .i64 0, .int .i64 6] 40)).alloc (.cells #[.int .i64 3, .int .i64 0, .int .i64 7] 40)) := by
  refine ⟨((BoxS.new w1 #[.int .i64 4, .int .i64 5, .int .i64 60] 40).alloc _).alloc _, ?_, ?_, ((h.alloc h.size _).alloc (by simp; have := h.size; omega) _).alloc (by simp; have := h.size; omega) _⟩
  · have := (BoxS.new (w1.alloc (.cells #[.int .i64 4, .int .i64 5, .int .i64 60] 40)) #[.int .i64 (-1), .int .i64 0, .int .i64 6] 40).alloc (.cells #[.int .i64 3, .int .i64 0, .int .i64 7] 40)
    simpa using this
  · have := BoxS.new ((w1.alloc (.cells #[.int .i64 4, .int .i64 5, .int .i64 60] 40)).alloc (.cells #[.int .i64 (-1), .int .i64 0, .int .i64 6] 40)) #[.int .i64 3, .int .i64 0, .int .i64 7] 40
    simpa using this
theorem Kn.after {w : World} {b : Nat} {W w1 : World} {q : Prop} (hb : Below W.heap.size W w1) (h : Kn w b W ∧ q) : Kn w b w1 := h.1.then hb
theorem Kn.fin {w : World} {b : Nat} {W : World} {q : Prop} (h : Kn w b W ∧ q) : Kn w b W := h.1
theorem Kn.all0 {w : World} {b : Nat} {w' : World} (h : Kn w b w') : Kn w b w' ∧ w'.cell? ⟨b, 0, none⟩ = some (.int .i64 4) := ⟨h, h.at_.2 0 _ rfl⟩
theorem Kn.all1 {w : World} {b : Nat} {w' : World} (h : Kn w b w') : Kn w b w' ∧ w'.cell? ⟨b, 1, none⟩ = some (.int .i64 5) := ⟨h, h.at_.2 1 _ rfl⟩
theorem Kn.all2 {w : World} {b : Nat} {w' : World} (h : Kn w b w') : Kn w b w' ∧ w'.cell? ⟨b, 2, none⟩ = some (.int .i64 60) := ⟨h, h.at_.2 2 _ rfl⟩

set_option maxRecDepth 100000 in
set_option maxHeartbeats 4000000 in
theorem known_walk (w : World) : Calls Tryd.prog 9 #[] w fun e w' => e = .returned (.bool true) ∧ Below w.heap.size w w' := by
  have f4 := ft4
  have f5 := ft5
  have c0 := ch0
  go_enter Tryd.func9, Tryd.ntmps9
  go_wp2_with (first | (go_at_call 31; refine (small_any _).mono ?_; rintro e w1 ⟨rfl, hb⟩) | (go_at_call 16; refine (largest_s _).mono ?_; rintro e w1 ⟨rfl, hb⟩) | (go_at_call 13; refine (budget_s _).mono ?_; rintro e w1 ⟨rfl, hb⟩) | (go_at_call 23; refine (space_m _).mono ?_; rintro e w1 ⟨rfl, hb⟩))
  have HK : Hid (Kn w w1.heap.size (((w1.alloc (.cells #[.int .i64 4, .int .i64 5, .int .i64 60] 40)).alloc (.cells #[.int .i64 (-1), .int .i64 0, .int .i64 6] 40)).alloc (.cells #[.int .i64 3, .int .i64 0, .int .i64 7] 40))) := Kn.new (by exact (by repeat (first | assumption | exact Old.refl _ | (refine Old.then ?_ (by assumption)) | apply Old.drewN | apply Old.drew | apply Old.alloc)))
  clear hb
  go_loopw [11] (fun i wr => ∃ k : Nat, k ≤ 3 ∧ i = .int .i64 k ∧ Kn w w1.heap.size wr) (fun i _ => 3 - (intOf i).toNat)
  case atStart => exact ⟨0, by omega, rfl, HK.out⟩
  case round =>
    obtain ⟨k, hk, rfl, hn⟩ := hrel
    clear HK
    by_cases h3 : k = 3
    · subst h3
      have hold := hn.old
      clear hn hk
      go_wp2_with fail
      (go_at_call 31; refine (small_any _).mono ?_; rintro e a1 ⟨rfl, b1⟩)
      go_wp2_with fail
      (go_at_call 25; refine (car_m _).mono ?_; rintro e a2 ⟨rfl, b2⟩)
      go_wp2_with fail
      (go_at_call 31; refine (small_any _).mono ?_; rintro e a3 ⟨rfl, b3⟩)
      go_wp2_with fail
      (go_at_call 29; refine (address_m _).mono ?_; rintro e a4 ⟨rfl, b4⟩)
      go_wp2_with fail
      (go_at_call 31; refine (small_any _).mono ?_; rintro e a5 ⟨rfl, b5⟩)
      have x5 : BoxS a5.heap.size #[.int .i64 8, .int .i64 6, .int .i64 4, .int .i64 1, .int .i64 2] (a5.alloc (.cells #[.int .i64 8, .int .i64 6, .int .i64 4, .int .i64 1, .int .i64 2] 23)) := BoxS.new _ _ _
      have X5 := Lib.hid x5
      clear x5
      go_wp2_with fail
      (go_at_call 31; refine (small_any _).mono ?_; rintro e a6 ⟨rfl, b6⟩)
      have X6 := Lib.hid (X5.out.then b6)
      go_wp2_with fail
      (go_at_call 20; refine (fits_any _ _ _ _ _ _ _).mono ?_; rintro e a7 ⟨rfl, b7⟩)
      have X7 := Lib.hid (X6.out.then b7)
      go_wp2_with fail
      (go_at_call 31; refine (small_any _).mono ?_; rintro e a8 ⟨rfl, b8⟩)
      have X8 := Lib.hid (X7.out.then b8)
      go_wp2_with fail
      (go_at_call 20; refine (fits_any _ _ _ _ _ _ _).mono ?_; rintro e a9 ⟨rfl, b9⟩)
      have x9 := X8.out.then b9
      have l0 : a9.cell? ⟨a5.heap.size, 0, none⟩ = some (.int .i64 8) := x9.2 0 _ rfl
      have l1 : a9.cell? ⟨a5.heap.size, 1, none⟩ = some (.int .i64 6) := x9.2 1 _ rfl
      have l2 : a9.cell? ⟨a5.heap.size, 2, none⟩ = some (.int .i64 4) := x9.2 2 _ rfl
      have l3 : a9.cell? ⟨a5.heap.size, 3, none⟩ = some (.int .i64 1) := x9.2 3 _ rfl
      have l4 : a9.cell? ⟨a5.heap.size, 4, none⟩ = some (.int .i64 2) := x9.2 4 _ rfl
      clear x9 X5 X6 X7 X8
      go_wp2_with (first | (go_at_call 10; refine (check_few _).mono ?_; rintro e a10 ⟨rfl, b10⟩) | (go_at_call 11; refine (awake_any _).mono ?_; rintro e a11 ⟨rfl, b11⟩))
      go_ret
      exact ⟨rfl, (by repeat (first | assumption | exact Old.refl _ | (refine Old.then ?_ (by assumption)) | apply Old.drewN | apply Old.drew | apply Old.alloc))⟩
    · rcases (show k = 0 ∨ k = 1 ∨ k = 2 by omega) with rfl | rfl | rfl
      · clear hk h3
        go_wp2_with fail
        go_region_held3 (fun w' => Kn w w1.heap.size w' ∧ w'.cell? ⟨w1.heap.size, 0, none⟩ = some (.int .i64 4)) (first | exact (Kn.drew (by assumption)).all0 | exact (Kn.after (by assumption) (by assumption)).all0)
          (first | (go_at_call 31; refine (small_any _).mono ?_; rintro e w3 ⟨rfl, hb3⟩) | (go_at_call 27; refine (place_0 _).mono ?_; rintro e w3 ⟨rfl, hb3⟩))
        have hk3 := Kn.fin (W := w3) (by assumption)
        have a1 := hk3.car.2 0 _ rfl
        have a2 := hk3.off.2 0 _ rfl
        simp only [List.getElem_toArray, List.getElem_cons_zero] at a1 a2
        have HK3 := Lib.hid hk3
        clear hk3 hn
        go_wp2
        go_roundw
        case rel => exact ⟨1, by omega, by go_num, HK3.out⟩
        case measure => simp [intOf]
      · clear hk h3
        go_wp2_with fail
        go_region_held3 (fun w' => Kn w w1.heap.size w' ∧ w'.cell? ⟨w1.heap.size, 1, none⟩ = some (.int .i64 5)) (first | exact (Kn.drew (by assumption)).all1 | exact (Kn.after (by assumption) (by assumption)).all1)
          (first | (go_at_call 31; refine (small_any _).mono ?_; rintro e w3 ⟨rfl, hb3⟩) | (go_at_call 27; refine (place_1 _).mono ?_; rintro e w3 ⟨rfl, hb3⟩))
        have hk3 := Kn.fin (W := w3) (by assumption)
        have a1 := hk3.car.2 1 _ rfl
        have a2 := hk3.off.2 1 _ rfl
        simp only [List.getElem_toArray, List.getElem_cons_zero, List.getElem_cons_succ] at a1 a2
        have HK3 := Lib.hid hk3
        clear hk3 hn
        go_wp2
        go_roundw
        case rel => exact ⟨2, by omega, by go_num, HK3.out⟩
        case measure => simp [intOf]
      · clear hk h3
        go_wp2_with fail
        go_region_held3 (fun w' => Kn w w1.heap.size w' ∧ w'.cell? ⟨w1.heap.size, 2, none⟩ = some (.int .i64 60)) (first | exact (Kn.drew (by assumption)).all2 | exact (Kn.after (by assumption) (by assumption)).all2)
          (first | (go_at_call 31; refine (small_any _).mono ?_; rintro e w3 ⟨rfl, hb3⟩) | (go_at_call 27; refine (place_2 _).mono ?_; rintro e w3 ⟨rfl, hb3⟩))
        have hk3 := Kn.fin (W := w3) (by assumption)
        have a1 := hk3.car.2 2 _ rfl
        have a2 := hk3.off.2 2 _ rfl
        simp only [List.getElem_toArray, List.getElem_cons_zero, List.getElem_cons_succ] at a1 a2
        have HK3 := Lib.hid hk3
        clear hk3 hn
        go_wp2
        go_roundw
        case rel => exact ⟨3, by omega, by go_num, HK3.out⟩
        case measure => simp [intOf]
end Go.Proofs.YtdfciaeeciaadaaDoor

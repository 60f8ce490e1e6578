/- The calls by which every statement of chapter 2 shows that the program answers. -/
import Derived.Test.YtabopillicdjaaaGreatDoorCfg3
import Derived.Test.YtabopillicdjaaaGreatDoorPrint
namespace Go.Proofs.YtabopillicdjaaaGreatDoor
open Go.RowKit

set_option maxHeartbeats 400000 in
theorem small_any (w : World) : Calls Tryz.prog 43 #[] w fun e w' => e = .returned (.agg #[.int .i64 8, .int .i64 7, .int .i64 4, .int .i64 1, .int .i64 2]) ∧ Below w.heap.size w w' := by
  go_enter Tryz.func43, Tryz.ntmps43
  go_wp2
  exact bodyPost_ret (v := .agg #[.int .i64 8, .int .i64 7, .int .i64 4, .int .i64 1, .int .i64 2]) (by simp [results, Tryz.results43, go_sem]) rfl ⟨rfl, (Below.refl _ _).alloc (Nat.le_refl _) _⟩

theorem words_s (w : World) : Calls Tryz.prog 42 #[.agg #[.int .i64 8, .int .i64 7, .int .i64 4, .int .i64 1, .int .i64 2]] w fun e w' => e = .returned (.tuple #[.int .i64 61, .int .i64 0]) ∧ Below w.heap.size w w' :=
  words_is 8 7 4 1 2 61 0 w (by decide)
theorem bound_s (w : World) : Calls Tryz.prog 44 #[.agg #[.int .i64 8, .int .i64 7, .int .i64 4, .int .i64 1, .int .i64 2]] w fun e w' => e = .returned (.tuple #[.int .i64 3648, .int .i64 0]) ∧ Below w.heap.size w w' := by
  have h := bound_any 8 7 4 1 2 w
  rwa [show bdV 8 7 4 1 2 = 3648 from by decide, show chkE 8 7 4 1 2 = 0 from by decide] at h
theorem space_s (w : World) : Calls Tryz.prog 45 #[.agg #[.int .i64 8, .int .i64 7, .int .i64 4, .int .i64 1, .int .i64 2], .int .i64 6] w fun e w' => e = .returned (.tuple #[.int .i64 53, .int .i64 61, .int .i64 0]) ∧ Below w.heap.size w w' :=
  space_is 8 7 4 1 2 6 53 61 0 w (by decide)
theorem address_s (w : World) : Calls Tryz.prog 46 #[.agg #[.int .i64 8, .int .i64 7, .int .i64 4, .int .i64 1, .int .i64 2], .int .i64 1, .int .i64 7] w fun e w' => e = .returned (.tuple #[.int .i64 20, .int .i64 0]) ∧ Below w.heap.size w w' := by
  have h := address_any 8 7 4 1 2 1 7 w
  rwa [show adV 8 7 4 1 2 1 7 = 20 from by decide, show adX 8 7 4 1 2 1 7 = 0 from by decide] at h
theorem small_text : Lib.join ((prStrs 8 7 4 1 2).map (·.data.toList)) [32] = [99, 97, 114, 115, 32, 55, 32, 111, 102, 32, 56, 32, 110, 117, 114, 115, 101, 114, 121, 32, 52, 32, 114, 101, 103, 105, 115, 116, 101, 114, 115, 32, 49, 32, 112, 111, 112, 117, 108, 97, 114, 32, 50] := by decide +kernel
theorem print_s (w : World) : Calls Tryz.prog 18 #[.agg #[.int .i64 8, .int .i64 7, .int .i64 4, .int .i64 1, .int .i64 2]] w fun e w' => e = .returned (.tuple #[.string ⟨#[99, 97, 114, 115, 32, 55, 32, 111, 102, 32, 56, 32, 110, 117, 114, 115, 101, 114, 121, 32, 52, 32, 114, 101, 103, 105, 115, 116, 101, 114, 115, 32, 49, 32, 112, 111, 112, 117, 108, 97, 114, 32, 50]⟩, .int .i64 0]) ∧ Below w.heap.size w w' := by
  have h := print_ok 8 7 4 1 2 w (by decide)
  rw [small_text] at h
  simpa using h

set_option maxRecDepth 100000 in
set_option maxHeartbeats 1000000 in
theorem awake_any (w : World) : Calls Tryz.prog 17 #[] w fun e w' => e = .returned (.bool true) ∧ Below w.heap.size w w' := by
  go_enter Tryz.func17, Tryz.ntmps17
  go_wp2_with (first | (go_at_call 43; refine (small_any _).mono ?_; rintro e w1 ⟨rfl, hb⟩) | (go_at_call 42; refine (words_s _).mono ?_; rintro e w1 ⟨rfl, hb⟩) | (go_at_call 44; refine (bound_s _).mono ?_; rintro e w1 ⟨rfl, hb⟩) | (go_at_call 45; refine (space_s _).mono ?_; rintro e w1 ⟨rfl, hb⟩) | (go_at_call 46; refine (address_s _).mono ?_; rintro e w1 ⟨rfl, hb⟩) | (go_at_call 18; refine (print_s _).mono ?_; rintro e w1 ⟨rfl, hb⟩))
  go_ret
  exact ⟨rfl, (by repeat (first | exact Old.refl _ | (refine Old.then ?_ (by assumption)) | apply Old.drewN | apply Old.drew | apply Old.alloc))⟩
end Go.Proofs.YtabopillicdjaaaGreatDoor

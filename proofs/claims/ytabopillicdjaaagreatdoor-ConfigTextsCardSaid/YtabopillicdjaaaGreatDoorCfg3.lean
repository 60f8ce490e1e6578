/- Package config: Address, Fits. -/
import Derived.Test.YtabopillicdjaaaGreatDoorCfg2
namespace Go.Proofs.YtabopillicdjaaaGreatDoor
open Go.RowKit

theorem sp_bounds {C N S K Q car : Int} (h : spOk C N S K Q car = true) : 1 ≤ spS C N S K Q car ∧ spS C N S K Q car < spE C N S K Q car ∧ spE C N S K Q car ≤ 1 + S + N * C ∧ 1 + S + N * C ≤ 1601 := by
  have h0 := h
  simp only [spOk, Bool.and_eq_true, decide_eq_true_eq] at h0
  obtain ⟨h1, h2, h3⟩ := h0
  obtain ⟨b1, b2, b3, b4, b5, b6, b7, b8, b9, b10⟩ := okC_bounds h1
  obtain ⟨m1, m2⟩ := mul_bounds b1 b2 b3 b4
  rw [spS, spE, if_pos h, if_pos h]
  by_cases hn : car < 0
  · rw [if_pos hn, if_pos hn]; omega
  · rw [if_neg hn, if_neg hn]
    obtain ⟨k1, k2, k3⟩ := mul_upto (C := C) (k := car) (m := N) (by omega) (by omega) b3 b4 b2
    have := mul_next C car N (by omega) b3
    omega
theorem retb {k' : IntKind} {a a' : Bool} {b b' : Int} (h1 : a' = a) (h2 : b' = b) : Ending.returned (.tuple #[.bool a, .int k' b]) = .returned (.tuple #[.bool a', .int k' b']) := by rw [h1, h2]

set_option maxHeartbeats 1000000 in
theorem address_any (C N S K Q car off : Int) (w : World) :
    Calls Tryz.prog 46 #[.agg #[.int .i64 C, .int .i64 N, .int .i64 S, .int .i64 K, .int .i64 Q], .int .i64 car, .int .i64 off] w fun e w' => e = .returned (.tuple #[.int .i64 (adV C N S K Q car off), .int .i64 (adX C N S K Q car off)]) ∧ Below w.heap.size w w' := by
  cases h : spOk C N S K Q car
  · have H := Lib.hid h
    have HW : Hid (spS C N S K Q car = 0 ∧ spE C N S K Q car = 0 ∧ spX C N S K Q car = 7) := by simp [Hid, spS, spE, spX, h]
    clear h
    go_enter Tryz.func46, Tryz.ntmps46
    go_wp2_with (first | (go_at_call 45; refine ((space_is _ _ _ _ _ _ _ _ _ _ HW.out)).mono ?_; rintro e w1 ⟨rfl, hb⟩; obtain ⟨hc, hf⟩ := bcell hb; have hz := hb.size; simp only [World.size_alloc] at hz))
    go_ret2
    exact ⟨cret2 (by simp [adV, adOk, H.out]) (by simp [adX, adOk, H.out]), (by repeat (first | exact Old.refl _ | exact hb | apply Old.drewN | apply Old.drew | apply Old.alloc | apply Old.then (k := hb)))⟩
  · have H := Lib.hid h
    obtain ⟨b1, b2, b3, b4⟩ := sp_bounds h
    obtain ⟨p, hp⟩ : ∃ p, spS C N S K Q car = p := ⟨_, rfl⟩
    obtain ⟨q, hq⟩ : ∃ q, spE C N S K Q car = q := ⟨_, rfl⟩
    rw [hp, hq] at b2
    rw [hp] at b1
    rw [hq] at b3
    have HW : Hid (spS C N S K Q car = p ∧ spE C N S K Q car = q ∧ spX C N S K Q car = 0) := ⟨hp, hq, by simp [spX, h]⟩
    clear h hp hq
    have b5 : q ≤ 1601 := by omega
    clear b3 b4
    by_cases hr : 0 ≤ off ∧ off < q - p
    · obtain ⟨r1, r2⟩ := hr
      have HR : Hid (adOk C N S K Q car off = true) := by simp [Hid, adOk, H.out, HW.out.1, HW.out.2.1, r1, r2]
      go_enter Tryz.func46, Tryz.ntmps46
      go_wp2_with (first | (go_at_call 45; refine ((space_is _ _ _ _ _ _ _ _ _ _ HW.out)).mono ?_; rintro e w1 ⟨rfl, hb⟩; obtain ⟨hc, hf⟩ := bcell hb; have hz := hb.size; simp only [World.size_alloc] at hz))
      go_ret2
      exact ⟨cret2 (by rw [adV, if_pos HR.out, HW.out.1]) (by rw [adX, if_pos HR.out]), (by repeat (first | exact Old.refl _ | exact hb | apply Old.drewN | apply Old.drew | apply Old.alloc | apply Old.then (k := hb)))⟩
    · have HR : Hid (adOk C N S K Q car off = false) := by simp only [Hid, adOk, H.out, HW.out.1, HW.out.2.1, Bool.true_and, decide_eq_false_iff_not]; exact hr
      have hr' : off < 0 ∨ q - p ≤ off := by omega
      clear hr
      rcases hr' with hr | hr
      all_goals go_enter Tryz.func46, Tryz.ntmps46
      all_goals go_wp2_with (first | (go_at_call 45; refine ((space_is _ _ _ _ _ _ _ _ _ _ HW.out)).mono ?_; rintro e w1 ⟨rfl, hb⟩; obtain ⟨hc, hf⟩ := bcell hb; have hz := hb.size; simp only [World.size_alloc] at hz))
      all_goals go_ret2
      all_goals exact ⟨cret2 (by simp [adV, HR.out]) (by simp [adX, HR.out]), (by repeat (first | exact Old.refl _ | exact hb | apply Old.drewN | apply Old.drew | apply Old.alloc | apply Old.then (k := hb)))⟩

end Go.Proofs.YtabopillicdjaaaGreatDoor

/- The reference of chapter 2: Place, Car. -/
import Derived.Test.YtdfciaeeciaadaaDoorRef2a
namespace Go.Proofs.YtdfciaeeciaadaaDoor
open Go.RowKit

theorem plOk_parts {C N S K Q a : Int} (h : plOk C N S K Q a = true) : okC C N S K Q = true ∧ 1 ≤ a ∧ a < 1 + S + N * C := by
  simpa only [plOk, Bool.and_eq_true, decide_eq_true_eq] using h
/-- The car of an address: its space holds it, and the spaces before end before it. -/
theorem place_rel {C N S K Q a : Int} (h : plOk C N S K Q a = true) :
    -1 ≤ plC C N S K Q a ∧ plC C N S K Q a < N ∧ spS C N S K Q (plC C N S K Q a) ≤ a ∧ a < spE C N S K Q (plC C N S K Q a) ∧
    a - spS C N S K Q (plC C N S K Q a) = plO C N S K Q a ∧ (∀ k, -1 ≤ k → k < plC C N S K Q a → spE C N S K Q k ≤ a) := by
  obtain ⟨h1, h2, h3⟩ := plOk_parts h
  obtain ⟨b1, b2, b3, b4, b5, b6, b7, b8, b9, b10⟩ := okC_bounds h1
  obtain ⟨p, hp⟩ : ∃ p, plC C N S K Q a = p := ⟨_, rfl⟩
  have hsp : ∀ k, -1 ≤ k → k < N → spOk C N S K Q k = true := fun k k1 k2 => by simp [spOk, h1, k1, k2]
  rw [hp]
  rw [plC, if_pos h] at hp
  rw [plO, if_pos h]
  by_cases hn : a ≤ S
  · rw [if_pos hn] at hp ⊢
    subst hp
    have hs := hsp (-1) (by omega) (by omega)
    rw [spS, spE, if_pos hs, if_pos hs, if_pos (by omega), if_pos (by omega)]
    refine ⟨by omega, by omega, by omega, by omega, by omega, fun k k1 k2 => by omega⟩
  · rw [if_neg hn] at hp ⊢
    have d1 := Int.emod_add_mul_ediv (a - (1 + S)) C
    have d2 := Int.emod_nonneg (a - (1 + S)) (show C ≠ 0 by omega)
    have d3 := Int.emod_lt_of_pos (a - (1 + S)) (show 0 < C by omega)
    have d4 : 0 ≤ (a - (1 + S)) / C := Int.ediv_nonneg (by omega) (by omega)
    have d5 : (a - (1 + S)) / C < N := Int.ediv_lt_of_lt_mul (by omega) (by omega)
    rw [hp] at d1 d4 d5
    rw [Int.mul_comm] at d1
    have hs := hsp p (by omega) d5
    rw [spS, spE, if_pos hs, if_pos hs, if_neg (by omega), if_neg (by omega)]
    refine ⟨by omega, by omega, by omega, by omega, by omega, fun k k1 k2 => ?_⟩
    have hk := hsp k k1 (by omega)
    rw [spE, if_pos hk]
    have m1 : 0 ≤ p * C := Int.mul_nonneg d4 (by omega)
    by_cases k3 : k < 0
    · rw [if_pos k3]; omega
    · rw [if_neg k3]
      have := mul_next C k p (by omega) b3
      omega

def Box (b : Nat) (C N S K Q : Int) (wr : World) : Prop := ∀ i u, (#[.int .i64 C, .int .i64 N, .int .i64 S, .int .i64 K, .int .i64 Q] : Array Value)[i]? = some u → wr.cell? ⟨b, i, none⟩ = some u
theorem Box.new (C N S K Q : Int) (w : World) : Box w.heap.size C N S K Q (w.alloc (.cells #[.int .i64 C, .int .i64 N, .int .i64 S, .int .i64 K, .int .i64 Q] 23)) := by
  intro i u hu
  rw [cell_of_row _ _ i #[.int .i64 C, .int .i64 N, .int .i64 S, .int .i64 K, .int .i64 Q] 23 (0, 0) (heap_alloc_new w _)]
  exact hu
theorem Box.below {b B : Nat} {C N S K Q : Int} {w w' : World} (h : Box b C N S K Q w) (hb : Below B w w') (hlt : b < B) : Box b C N S K Q w' :=
  fun i u hu => (hb.cell (p := ⟨b, i, none⟩) hlt).trans (h i u hu)

set_option maxHeartbeats 1000000 in
theorem rplace_any (C N S K Q a : Int) (w : World) :
    Calls Tryd.prog 28 #[.agg #[.int .i64 C, .int .i64 N, .int .i64 S, .int .i64 K, .int .i64 Q], .int .i64 a] w fun e w' => e = .returned (.tuple #[.int .i64 (plC C N S K Q a), .int .i64 (plO C N S K Q a), .int .i64 (plX C N S K Q a)]) ∧ Below w.heap.size w w' := by
  cases h : okC C N S K Q
  · have H := Lib.hid h
    have HW : Hid (wdV C N S K Q = 0 ∧ chkE C N S K Q = 7) := by simp [Hid, wdV, chkE, h]
    clear h
    go_enter Tryd.func28, Tryd.ntmps28
    go_wp2_with (first | (go_at_call 15; refine ((rwords_is _ _ _ _ _ _ _ _ HW.out)).mono ?_; rintro e w1 ⟨rfl, hb⟩; obtain ⟨hc, hf⟩ := bcell hb; have hz := hb.size; simp only [World.size_alloc] at hz) | (go_at_call 39; refine (in_any _ _ _ _).mono ?_; rintro e w2 ⟨rfl, rfl⟩))
    go_ret3
    exact ⟨ret3 (by simp [plC, plOk, H.out]) (by simp [plO, plOk, H.out]) (by simp [plX, plOk, H.out]), (by repeat (first | exact Old.refl _ | exact hb | apply Old.drewN | apply Old.drew | apply Old.alloc | apply Old.then (k := hb)))⟩
  · have H := Lib.hid h
    have HW : Hid (wdV C N S K Q = 1 + S + N * C ∧ chkE C N S K Q = 0) := by simp [Hid, wdV, chkE, h]
    clear h
    have h := H.out
    obtain ⟨h1, h2, h3, h4, h5, h6, h7, h8, h9, h10⟩ := okC_bounds h
    clear h
    obtain ⟨m1, m2⟩ := mul_bounds h1 h2 h3 h4
    by_cases hr : 1 ≤ a ∧ a < 1 + S + N * C
    · obtain ⟨r1, r2⟩ := hr
      have HR : plOk C N S K Q a = true := by simp [plOk, H.out, r1, r2]
      have i1 : inB a 1 (1 + S + N * C - 1) = true := by simp only [inB, decide_eq_true_eq]; omega
      obtain ⟨q1, q2, q3, q4, q5, q6⟩ := place_rel HR
      obtain ⟨t, ht⟩ : ∃ t, plC C N S K Q a = t := ⟨_, rfl⟩
      rw [ht] at q1 q2 q3 q4 q5 q6
      have HT := Lib.hid ht
      have H5 := Lib.hid q5
      have H6 := Lib.hid q6
      have H3 := Lib.hid q3
      have H4 := Lib.hid q4
      have HRR := Lib.hid HR
      clear ht q5 q6 q3 q4 HR
      have HX := Lib.hid (Box.new C N S K Q w)
      go_enter Tryd.func28, Tryd.ntmps28
      go_wp2_with (first | (go_at_call 15; refine ((rwords_is _ _ _ _ _ _ _ _ HW.out)).mono ?_; rintro e w1 ⟨rfl, hb⟩; obtain ⟨hc, hf⟩ := bcell hb; have hz := hb.size; simp only [World.size_alloc] at hz) | (go_at_call 39; refine (in_any _ _ _ _).mono ?_; rintro e w2 ⟨rfl, rfl⟩))
      have HXW : Hid (Box w.heap.size C N S K Q w1) := HX.out.below hb (by simp)
      have HB1 : Hid (Below w.heap.size w w1) := by exact (by repeat (first | exact Old.refl _ | exact hb | apply Old.drewN | apply Old.drew | apply Old.alloc | apply Old.then (k := hb)))
      clear hb hc hf HX
      go_loopw [9] (fun i wr => ∃ k : Int, -1 ≤ k ∧ k ≤ t ∧ i = .int .i64 k ∧ Box w.heap.size C N S K Q wr ∧ Below w.heap.size w wr ∧ w.heap.size + 1 ≤ wr.heap.size) (fun i _ => (t - intOf i).toNat)
      case atStart => exact ⟨-1, by omega, by omega, rfl, HXW.out, HB1.out, by omega⟩
      case round =>
        obtain ⟨k, k1, k2, rfl, hx, hbr, hzr⟩ := hrel
        have c0 : wr.cell? ⟨w.heap.size, 0, none⟩ = some (.int .i64 C) := hx 0 _ rfl
        have c1 : wr.cell? ⟨w.heap.size, 1, none⟩ = some (.int .i64 N) := hx 1 _ rfl
        have c2 : wr.cell? ⟨w.heap.size, 2, none⟩ = some (.int .i64 S) := hx 2 _ rfl
        have c3 : wr.cell? ⟨w.heap.size, 3, none⟩ = some (.int .i64 K) := hx 3 _ rfl
        have c4 : wr.cell? ⟨w.heap.size, 4, none⟩ = some (.int .i64 Q) := hx 4 _ rfl
        have HX2 := Lib.hid hx
        have HB2 := Lib.hid hbr
        clear hx hbr
        have k3 : k < N := by omega
        obtain ⟨p, hp⟩ : ∃ p, spS C N S K Q k = p := ⟨_, rfl⟩
        obtain ⟨q, hq⟩ : ∃ q, spE C N S K Q k = q := ⟨_, rfl⟩
        have hso : spOk C N S K Q k = true := by simp [spOk, H.out, k1, k3]
        have HS : Hid (spS C N S K Q k = p ∧ spE C N S K Q k = q ∧ spX C N S K Q k = 0) := ⟨hp, hq, by simp [spX, hso]⟩
        obtain ⟨b1, b2, b3, b4⟩ := sp_bounds hso
        rw [hp] at b1 b2
        rw [hq] at b2 b3
        clear hso
        by_cases hk : k = t
        · subst hk
          have g1 : p ≤ a := by rw [← hp]; exact H3.out
          have g2 : a < q := by rw [← hq]; exact H4.out
          clear hp hq b3 b4
          go_wp2_with (first | (go_at_call 24; refine (rspace_is _ _ _ _ _ _ _ _ _ _ HS.out).mono ?_; rintro e w2 ⟨rfl, hb⟩; obtain ⟨hc, hf⟩ := bcell hb))
          go_ret3
          exact ⟨ret3 HT.out.symm (by rw [← H5.out, HS.out.1]) (by simp [plX, HRR.out]), HB2.out.trans (hb.mono (by omega))⟩
        · have g0 : k < t := by omega
          have g1 : q ≤ a := by rw [← hq]; exact H6.out k k1 g0
          have g2 : p ≤ a := by omega
          clear hp hq b3 b4 hk
          go_wp2_with (first | (go_at_call 24; refine (rspace_is _ _ _ _ _ _ _ _ _ _ HS.out).mono ?_; rintro e w2 ⟨rfl, hb⟩; obtain ⟨hc, hf⟩ := bcell hb))
          go_roundw
          case rel => exact ⟨k + 1, by omega, by omega, rfl, HX2.out.below hb (by omega), HB2.out.trans (hb.mono (by omega)), by have := hb.size; omega⟩
          case measure => simp [intOf]; omega
    · have HR : Hid (plOk C N S K Q a = false) := by simp only [Hid, plOk, H.out, Bool.true_and, decide_eq_false_iff_not]; exact hr
      have i1 : inB a 1 (1 + S + N * C - 1) = false := by simp only [inB, decide_eq_false_iff_not]; omega
      clear hr
      go_enter Tryd.func28, Tryd.ntmps28
      go_wp2_with (first | (go_at_call 15; refine ((rwords_is _ _ _ _ _ _ _ _ HW.out)).mono ?_; rintro e w1 ⟨rfl, hb⟩; obtain ⟨hc, hf⟩ := bcell hb; have hz := hb.size; simp only [World.size_alloc] at hz) | (go_at_call 39; refine (in_any _ _ _ _).mono ?_; rintro e w2 ⟨rfl, rfl⟩))
      go_ret3
      exact ⟨ret3 (by simp [plC, HR.out]) (by simp [plO, HR.out]) (by simp [plX, HR.out]), (by repeat (first | exact Old.refl _ | exact hb | apply Old.drewN | apply Old.drew | apply Old.alloc | apply Old.then (k := hb)))⟩

set_option maxHeartbeats 400000 in
theorem rcar_any (C N S K Q a : Int) (w : World) :
    Calls Tryd.prog 26 #[.agg #[.int .i64 C, .int .i64 N, .int .i64 S, .int .i64 K, .int .i64 Q], .int .i64 a] w fun e w' => e = .returned (.tuple #[.int .i64 (plC C N S K Q a), .int .i64 (plX C N S K Q a)]) ∧ Below w.heap.size w w' := by
  go_enter Tryd.func26, Tryd.ntmps26
  go_wp2_with (first | (go_at_call 28; refine (rplace_any _ _ _ _ _ _ _).mono ?_; rintro e w1 ⟨rfl, hb⟩; obtain ⟨hc, hf⟩ := bcell hb; have hz := hb.size; simp only [World.size_alloc] at hz))
  go_ret2
  exact ⟨rfl, (by repeat (first | exact Old.refl _ | exact hb | apply Old.drewN | apply Old.drew | apply Old.alloc | apply Old.then (k := hb)))⟩

end Go.Proofs.YtdfciaeeciaadaaDoor

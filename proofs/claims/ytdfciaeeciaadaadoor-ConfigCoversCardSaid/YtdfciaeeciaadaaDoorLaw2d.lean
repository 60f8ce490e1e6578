/- ConfigCovers: the walk. -/
import Derived.Test.YtdfciaeeciaadaaDoorLaw2c
namespace Go.Proofs.YtdfciaeeciaadaaDoor
open Go.RowKit

set_option linter.unusedVariables false in
/-- Where the space of car k begins (k = N: behind the last one). -/
def atV (C N S K Q k : Int) : Int := if k < 0 then 1 else 1 + S + k * C
theorem atV_sp {C N S K Q k : Int} (h : okC C N S K Q = true) (h1 : -1 ≤ k) (h2 : k < N) : spS C N S K Q k = atV C N S K Q k ∧ spE C N S K Q k = atV C N S K Q (k + 1) ∧ spX C N S K Q k = 0 := by
  have hs : spOk C N S K Q k = true := by simp [spOk, h, h1, h2]
  rw [spS, spE, spX, if_pos hs, if_pos hs, if_pos hs, atV, atV]
  refine ⟨rfl, ?_, rfl⟩
  by_cases hn : k < 0
  · obtain rfl : k = -1 := by omega
    simp
  · rw [if_neg hn, if_neg (by omega), Int.add_mul]; omega
/-- An address within the space of car k: what the program answers of it. -/
theorem in_space {C N S K Q k a : Int} (h : okC C N S K Q = true) (h1 : -1 ≤ k) (h2 : k < N) (a1 : atV C N S K Q k ≤ a) (a2 : a < atV C N S K Q (k + 1)) :
    plC C N S K Q a = k ∧ plO C N S K Q a = a - atV C N S K Q k ∧ plX C N S K Q a = 0 ∧ adV C N S K Q k (a - atV C N S K Q k) = a ∧ adX C N S K Q k (a - atV C N S K Q k) = 0 := by
  obtain ⟨b1, b2, b3, b4, b5, b6, b7, b8, b9, b10⟩ := okC_bounds h
  obtain ⟨s1, s2, s3⟩ := atV_sp h h1 h2
  have hs : spOk C N S K Q k = true := by simp [spOk, h, h1, h2]
  obtain ⟨g1, g2, g3, g4⟩ := sp_bounds hs
  rw [s1, s2] at g2
  rw [s1] at g1
  rw [s2] at g3
  have hp : plOk C N S K Q a = true := by simp only [plOk, h, Bool.true_and, decide_eq_true_eq]; omega
  obtain ⟨q1, q2, q3, q4, q5, q6⟩ := place_rel hp
  have hk : plC C N S K Q a = k := by
    rcases Int.lt_trichotomy (plC C N S K Q a) k with hlt | heq | hgt
    · -- the space of an earlier car ends before
      exfalso
      obtain ⟨t1, t2, t3⟩ := atV_sp h q1 q2
      rw [t2] at q4
      have hm : atV C N S K Q (plC C N S K Q a + 1) ≤ atV C N S K Q k := by
        rw [atV, atV]
        by_cases hn : k < 0
        · omega
        · rw [if_neg (show ¬ plC C N S K Q a + 1 < 0 by omega), if_neg hn]
          have := Int.mul_le_mul_of_nonneg_right (show plC C N S K Q a + 1 ≤ k by omega) (show (0 : Int) ≤ C by omega)
          omega
      omega
    · exact heq
    · exfalso
      have := q6 k h1 hgt
      rw [s2] at this
      omega
  have ha : adOk C N S K Q k (a - atV C N S K Q k) = true := by simp only [adOk, hs, Bool.true_and, decide_eq_true_eq, s1, s2]; omega
  refine ⟨hk, ?_, by rw [plX, if_pos hp], by rw [adV, if_pos ha, s1]; omega, by rw [adX, if_pos ha]⟩
  rw [← q5, hk, s1]
theorem past_space {C N S K Q k : Int} (h : okC C N S K Q = true) (h1 : -1 ≤ k) (h2 : k < N) : adX C N S K Q k (atV C N S K Q (k + 1) - atV C N S K Q k) = 7 := by
  obtain ⟨s1, s2, s3⟩ := atV_sp h h1 h2
  have hs : spOk C N S K Q k = true := by simp [spOk, h, h1, h2]
  have ha : adOk C N S K Q k (atV C N S K Q (k + 1) - atV C N S K Q k) = false := by simp only [adOk, hs, Bool.true_and, decide_eq_false_iff_not, s1, s2]; omega
  simp [adX, ha]
theorem atV_bounds {C N S K Q k : Int} (h : okC C N S K Q = true) (h1 : -1 ≤ k) (h2 : k < N) : 1 ≤ atV C N S K Q k ∧ atV C N S K Q k < atV C N S K Q (k + 1) ∧ atV C N S K Q (k + 1) ≤ 1601 := by
  obtain ⟨s1, s2, s3⟩ := atV_sp h h1 h2
  obtain ⟨g1, g2, g3, g4⟩ := sp_bounds (show spOk C N S K Q k = true by simp [spOk, h, h1, h2])
  rw [s1] at g1 g2
  rw [s2] at g2 g3
  omega

theorem car_is (C N S K Q a p x : Int) (w : World) (h : plC C N S K Q a = p ∧ plX C N S K Q a = x) :
    Calls Tryd.prog 25 #[.agg #[.int .i64 C, .int .i64 N, .int .i64 S, .int .i64 K, .int .i64 Q], .int .i64 a] w fun e w' => e = .returned (.tuple #[.int .i64 p, .int .i64 x]) ∧ Below w.heap.size w w' := by
  obtain ⟨rfl, rfl⟩ := h
  exact car_any C N S K Q a w
theorem address_is (C N S K Q car off p x : Int) (w : World) (h : adV C N S K Q car off = p ∧ adX C N S K Q car off = x) :
    Calls Tryd.prog 29 #[.agg #[.int .i64 C, .int .i64 N, .int .i64 S, .int .i64 K, .int .i64 Q], .int .i64 car, .int .i64 off] w fun e w' => e = .returned (.tuple #[.int .i64 p, .int .i64 x]) ∧ Below w.heap.size w w' := by
  obtain ⟨rfl, rfl⟩ := h
  exact address_any C N S K Q car off w

theorem ad_zero {C N S K Q car off : Int} (h : adX C N S K Q car off = 7) : adV C N S K Q car off = 0 := by
  rw [adX] at h
  rw [adV]
  split at h
  · cases h
  · rename_i h1; rw [if_neg h1]
theorem car_isn (C N S K Q a : Int) (w : World) (h1 : plC C N S K Q a = 0) (h : plX C N S K Q a = 7) :
    Calls Tryd.prog 25 #[.agg #[.int .i64 C, .int .i64 N, .int .i64 S, .int .i64 K, .int .i64 Q], .int .i64 a] w fun e w' => e = .returned (.tuple #[.int .i64 0, .int .i64 7]) ∧ Below w.heap.size w w' := car_is C N S K Q a 0 7 w ⟨h1, h⟩

set_option maxRecDepth 100000 in
set_option maxHeartbeats 4000000 in
theorem covers_walk (C N S K Q : Int) (w : World) :
    Calls Tryd.prog 8 #[.agg #[.int .i64 C, .int .i64 N, .int .i64 S, .int .i64 K, .int .i64 Q]] w fun e w' => e = .returned (.bool true) ∧ Below w.heap.size w w' := by
  have hx0 := BoxS.new w #[.int .i64 C, .int .i64 N, .int .i64 S, .int .i64 K, .int .i64 Q] 23
  cases h : okC C N S K Q
  · have HW : Hid (wdV C N S K Q = 0 ∧ chkE C N S K Q = 7) := by simp [Hid, wdV, chkE, h]
    clear h
    go_enter Tryd.func8, Tryd.ntmps8
    go_wp2_with (first | (go_at_call 12; refine (words_is _ _ _ _ _ _ _ _ HW.out).mono ?_; rintro e w1 ⟨rfl, hb⟩; have hx := BoxS.then (b := w.heap.size) (cs := #[.int .i64 C, .int .i64 N, .int .i64 S, .int .i64 K, .int .i64 Q]) (by assumption) hb; have c0 := hx.2 0 _ rfl; have c1 := hx.2 1 _ rfl; have c2 := hx.2 2 _ rfl; have c3 := hx.2 3 _ rfl; have c4 := hx.2 4 _ rfl; simp only [List.getElem_toArray, List.getElem_cons_zero, List.getElem_cons_succ] at c0 c1 c2 c3 c4) | (go_at_call 11; refine (awake_any _).mono ?_; rintro e w1 ⟨rfl, hb⟩; have hx := BoxS.then (b := w.heap.size) (cs := #[.int .i64 C, .int .i64 N, .int .i64 S, .int .i64 K, .int .i64 Q]) (by assumption) hb; have c0 := hx.2 0 _ rfl; have c1 := hx.2 1 _ rfl; have c2 := hx.2 2 _ rfl; have c3 := hx.2 3 _ rfl; have c4 := hx.2 4 _ rfl; simp only [List.getElem_toArray, List.getElem_cons_zero, List.getElem_cons_succ] at c0 c1 c2 c3 c4))
    go_ret
    exact ⟨rfl, (by repeat (first | exact Old.refl _ | (refine Old.then ?_ (by assumption)) | apply Old.drewN | apply Old.drew | apply Old.alloc))⟩
  · have H := Lib.hid h
    obtain ⟨h1, h2, h3, h4, h5, h6, h7, h8, h9, h10⟩ := okC_bounds h
    obtain ⟨m1, m2⟩ := mul_bounds h1 h2 h3 h4
    obtain ⟨n, hn⟩ : ∃ n, 1 + S + N * C = n := ⟨_, rfl⟩
    have HW : Hid (wdV C N S K Q = n ∧ chkE C N S K Q = 0) := by simp [Hid, wdV, chkE, h, hn]
    have HC : Hid (plX C N S K Q n = 7) := by simp [Hid, plX, plOk, hn]
    have HZ : Hid (plX C N S K Q 0 = 7) := by simp [Hid, plX, plOk]
    have HCP : Hid (plC C N S K Q n = 0 ∧ plC C N S K Q 0 = 0) := by simp [Hid, plC, plOk, hn]
    have HN : Hid (atV C N S K Q N = n) := by simp only [Hid, atV]; rw [if_neg (by omega)]; exact hn
    have HA1 : Hid (atV C N S K Q (-1) = 1) := by simp [Hid, atV]
    clear h hn m1 m2
    go_enter Tryd.func8, Tryd.ntmps8
    go_wp2_with (first | (go_at_call 12; refine (words_is _ _ _ _ _ _ _ _ HW.out).mono ?_; rintro e w1 ⟨rfl, hb⟩; have hx := BoxS.then (b := w.heap.size) (cs := #[.int .i64 C, .int .i64 N, .int .i64 S, .int .i64 K, .int .i64 Q]) (by assumption) hb; have c0 := hx.2 0 _ rfl; have c1 := hx.2 1 _ rfl; have c2 := hx.2 2 _ rfl; have c3 := hx.2 3 _ rfl; have c4 := hx.2 4 _ rfl; simp only [List.getElem_toArray, List.getElem_cons_zero, List.getElem_cons_succ] at c0 c1 c2 c3 c4))
    have HX := Lib.hid hx
    have HB : Hid (Below w.heap.size w w1) := by exact (by repeat (first | exact Old.refl _ | (refine Old.then ?_ (by assumption)) | apply Old.drewN | apply Old.drew | apply Old.alloc))
    clear hb hx c0 c1 c2 c3 c4
    go_loopw [5, 6] (fun at_ i wr => ∃ k : Int, -1 ≤ k ∧ k ≤ N ∧ i = .int .i64 k ∧ at_ = .int .i64 (atV C N S K Q k) ∧ BoxS w.heap.size #[.int .i64 C, .int .i64 N, .int .i64 S, .int .i64 K, .int .i64 Q] wr ∧ Below w.heap.size w wr) (fun _ i _ => (N - intOf i).toNat)
    case atStart => exact ⟨-1, by omega, by omega, rfl, by rw [HA1.out], HX.out, HB.out⟩
    case round =>
      obtain ⟨k, k1, k2, rfl, rfl, hx, hbo⟩ := hrel
      have c0 := hx.2 0 _ rfl; have c1 := hx.2 1 _ rfl; have c2 := hx.2 2 _ rfl; have c3 := hx.2 3 _ rfl; have c4 := hx.2 4 _ rfl; simp only [List.getElem_toArray, List.getElem_cons_zero, List.getElem_cons_succ] at c0 c1 c2 c3 c4
      have HB2 := Lib.hid hbo
      clear HX HB hbo
      by_cases hk : k < N
      · obtain ⟨g1, g2, g3⟩ := atV_bounds H.out k1 hk
        obtain ⟨p, hp⟩ : ∃ p, atV C N S K Q k = p := ⟨_, rfl⟩
        obtain ⟨q, hq⟩ : ∃ q, atV C N S K Q (k + 1) = q := ⟨_, rfl⟩
        rw [hp, hq] at g2
        rw [hp] at g1
        rw [hq] at g3
        have HS : Hid (spS C N S K Q k = p ∧ spE C N S K Q k = q ∧ spX C N S K Q k = 0) := by have := atV_sp H.out k1 hk; rwa [hp, hq] at this
        have HI : Hid (∀ a, p ≤ a → a < q → plC C N S K Q a = k ∧ plO C N S K Q a = a - p ∧ plX C N S K Q a = 0 ∧ adV C N S K Q k (a - p) = a ∧ adX C N S K Q k (a - p) = 0) := by
          intro a a1 a2
          have := in_space H.out k1 hk (a := a) (by rw [hp]; exact a1) (by rw [hq]; exact a2)
          rwa [hp] at this
        have HPast2 : Hid (adV C N S K Q k (q - p) = 0 ∧ adX C N S K Q k (q - p) = 7) := by have := past_space H.out k1 hk; rw [hp, hq] at this; exact ⟨ad_zero this, this⟩
        have HQ : Hid (atV C N S K Q (k + 1) = q) := hq
        rw [hp]
        clear hp hq
        go_wp2_with (first | (go_at_call 23; refine (space_is _ _ _ _ _ _ _ _ _ _ HS.out).mono ?_; rintro e w1 ⟨rfl, hb⟩; have hx := BoxS.then (b := w.heap.size) (cs := #[.int .i64 C, .int .i64 N, .int .i64 S, .int .i64 K, .int .i64 Q]) (by assumption) hb; have c0 := hx.2 0 _ rfl; have c1 := hx.2 1 _ rfl; have c2 := hx.2 2 _ rfl; have c3 := hx.2 3 _ rfl; have c4 := hx.2 4 _ rfl; simp only [List.getElem_toArray, List.getElem_cons_zero, List.getElem_cons_succ] at c0 c1 c2 c3 c4))
        have HX3 := Lib.hid hx
        have HB3 : Hid (Below w.heap.size w w1) := Lib.hid (HB2.out.trans (hb.mono (by have := HB2.out.size; omega)))
        clear hb hx c0 c1 c2 c3 c4
        obtain ⟨wo, rfl⟩ : ∃ wo : World, wo = wr := ⟨_, rfl⟩
        go_loopw [10] (fun i wr => ∃ a : Int, p ≤ a ∧ a ≤ q ∧ i = .int .i64 a ∧ BoxS w.heap.size #[.int .i64 C, .int .i64 N, .int .i64 S, .int .i64 K, .int .i64 Q] wr ∧ Below w.heap.size w wr) (fun i _ => (q - intOf i).toNat)
        case atStart => exact ⟨p, by omega, by omega, rfl, HX3.out, HB3.out⟩
        case round =>
          obtain ⟨a, a1, a2, rfl, hx, hbo⟩ := hrel
          have c0 := hx.2 0 _ rfl; have c1 := hx.2 1 _ rfl; have c2 := hx.2 2 _ rfl; have c3 := hx.2 3 _ rfl; have c4 := hx.2 4 _ rfl; simp only [List.getElem_toArray, List.getElem_cons_zero, List.getElem_cons_succ] at c0 c1 c2 c3 c4
          have HB4 := Lib.hid hbo
          clear hbo
          by_cases ha : a < q
          · obtain ⟨e1, e2, e3, e4, e5⟩ := HI.out a a1 ha
            have HP : Hid (plC C N S K Q a = k ∧ plO C N S K Q a = a - p ∧ plX C N S K Q a = 0) := ⟨e1, e2, e3⟩
            have HC2 : Hid (plC C N S K Q a = k ∧ plX C N S K Q a = 0) := ⟨e1, e3⟩
            have HAd : Hid (adV C N S K Q k (a - p) = a ∧ adX C N S K Q k (a - p) = 0) := ⟨e4, e5⟩
            clear e1 e2 e3 e4 e5
            go_wp2_with (first | (go_at_call 27; refine (place_is _ _ _ _ _ _ _ _ _ _ HP.out).mono ?_; rintro e w1 ⟨rfl, hb⟩; have hx := BoxS.then (b := w.heap.size) (cs := #[.int .i64 C, .int .i64 N, .int .i64 S, .int .i64 K, .int .i64 Q]) (by assumption) hb; have c0 := hx.2 0 _ rfl; have c1 := hx.2 1 _ rfl; have c2 := hx.2 2 _ rfl; have c3 := hx.2 3 _ rfl; have c4 := hx.2 4 _ rfl; simp only [List.getElem_toArray, List.getElem_cons_zero, List.getElem_cons_succ] at c0 c1 c2 c3 c4) | (go_at_call 25; refine (car_is _ _ _ _ _ _ _ _ _ HC2.out).mono ?_; rintro e w1 ⟨rfl, hb⟩; have hx := BoxS.then (b := w.heap.size) (cs := #[.int .i64 C, .int .i64 N, .int .i64 S, .int .i64 K, .int .i64 Q]) (by assumption) hb; have c0 := hx.2 0 _ rfl; have c1 := hx.2 1 _ rfl; have c2 := hx.2 2 _ rfl; have c3 := hx.2 3 _ rfl; have c4 := hx.2 4 _ rfl; simp only [List.getElem_toArray, List.getElem_cons_zero, List.getElem_cons_succ] at c0 c1 c2 c3 c4) | (go_at_call 29; refine (address_is _ _ _ _ _ _ _ _ _ _ HAd.out).mono ?_; rintro e w1 ⟨rfl, hb⟩; have hx := BoxS.then (b := w.heap.size) (cs := #[.int .i64 C, .int .i64 N, .int .i64 S, .int .i64 K, .int .i64 Q]) (by assumption) hb; have c0 := hx.2 0 _ rfl; have c1 := hx.2 1 _ rfl; have c2 := hx.2 2 _ rfl; have c3 := hx.2 3 _ rfl; have c4 := hx.2 4 _ rfl; simp only [List.getElem_toArray, List.getElem_cons_zero, List.getElem_cons_succ] at c0 c1 c2 c3 c4))
            go_roundw
            case rel => exact ⟨a + 1, by omega, by omega, rfl, hx, by have := HB4.out; exact (by repeat (first | assumption | (refine Old.then ?_ (by assumption)) | apply Old.drewN | apply Old.drew | apply Old.alloc))⟩
            case measure => simp [intOf]; omega
          · obtain rfl : q = a := by omega
            clear ha
            go_wp2_with (first | (go_at_call 29; refine (address_is _ _ _ _ _ _ _ 0 _ _ HPast2.out).mono ?_; rintro e w1 ⟨rfl, hb⟩; have hx := BoxS.then (b := w.heap.size) (cs := #[.int .i64 C, .int .i64 N, .int .i64 S, .int .i64 K, .int .i64 Q]) (by assumption) hb; have c0 := hx.2 0 _ rfl; have c1 := hx.2 1 _ rfl; have c2 := hx.2 2 _ rfl; have c3 := hx.2 3 _ rfl; have c4 := hx.2 4 _ rfl; simp only [List.getElem_toArray, List.getElem_cons_zero, List.getElem_cons_succ] at c0 c1 c2 c3 c4))
            go_roundw
            case rel => exact ⟨k + 1, by omega, by omega, rfl, by rw [HQ.out], hx, by have := HB4.out; exact (by repeat (first | assumption | (refine Old.then ?_ (by assumption)) | apply Old.drewN | apply Old.drew | apply Old.alloc))⟩
            case measure => simp [intOf]; omega
      · obtain rfl : N = k := by omega
        rw [HN.out]
        have z1 := HC.out
        have z2 := HZ.out
        go_wp2_with (first | (go_at_call 25; refine (car_any _ _ _ _ _ _ _).mono ?_; rintro e w1 ⟨rfl, hb⟩; have hx := BoxS.then (b := w.heap.size) (cs := #[.int .i64 C, .int .i64 N, .int .i64 S, .int .i64 K, .int .i64 Q]) (by assumption) hb; have c0 := hx.2 0 _ rfl; have c1 := hx.2 1 _ rfl; have c2 := hx.2 2 _ rfl; have c3 := hx.2 3 _ rfl; have c4 := hx.2 4 _ rfl; simp only [List.getElem_toArray, List.getElem_cons_zero, List.getElem_cons_succ] at c0 c1 c2 c3 c4) | (go_at_call 11; refine (awake_any _).mono ?_; rintro e w1 ⟨rfl, hb⟩; have hx := BoxS.then (b := w.heap.size) (cs := #[.int .i64 C, .int .i64 N, .int .i64 S, .int .i64 K, .int .i64 Q]) (by assumption) hb; have c0 := hx.2 0 _ rfl; have c1 := hx.2 1 _ rfl; have c2 := hx.2 2 _ rfl; have c3 := hx.2 3 _ rfl; have c4 := hx.2 4 _ rfl; simp only [List.getElem_toArray, List.getElem_cons_zero, List.getElem_cons_succ] at c0 c1 c2 c3 c4))
        go_ret
        exact ⟨rfl, by have := HB2.out; exact (by repeat (first | assumption | (refine Old.then ?_ (by assumption)) | apply Old.drewN | apply Old.drew | apply Old.alloc))⟩

end Go.Proofs.YtdfciaeeciaadaaDoor

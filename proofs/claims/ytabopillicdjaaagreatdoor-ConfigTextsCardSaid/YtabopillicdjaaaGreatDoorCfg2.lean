/- The walks of package config's functions above Check. -/
import Derived.Test.YtabopillicdjaaaGreatDoorCfg
import Derived.BigQuiet
import Derived.IntWalk
import Derived.Deep.QuietTactic
namespace Go.Proofs.YtabopillicdjaaaGreatDoor
open Go.RowKit

/-- All that was there is as it was. -/
def Old (w w' : World) : Prop := Below w.heap.size w w'
theorem Old.refl (w : World) : Old w w := Below.refl _ _
theorem Old.alloc {w W : World} (h : Old w W) (o : Obj) : Old w (W.alloc o) := Below.alloc h h.size o
theorem Old.drewN {w W : World} (h : Old w W) (n : Nat) : Old w (W.drewN n) := ⟨h.os, h.tape, h.output, h.size, h.block⟩
theorem Old.drew {w W : World} (h : Old w W) : Old w W.drew := Below.drew h
theorem Old.then {w W w1 : World} (h : Old w W) (k : Below W.heap.size W w1) : Old w w1 := Below.trans h (k.mono h.size)
theorem cret2 {k k' : IntKind} {a b a' b' : Int} (h1 : a = a') (h2 : b = b') : Ending.returned (.tuple #[.int k a, .int k' b]) = .returned (.tuple #[.int k a', .int k' b']) := by rw [h1, h2]
/-- A block of the call's own, and its cells. -/
def BoxS (b : Nat) (cs : Array Value) (wr : World) : Prop := b < wr.heap.size ∧ ∀ i u, cs[i]? = some u → wr.cell? ⟨b, i, none⟩ = some u
theorem BoxS.new (w : World) (cs : Array Value) (T : TypeId) : BoxS w.heap.size cs (w.alloc (.cells cs T)) := by
  refine ⟨by simp, fun i u hu => ?_⟩
  rw [cell_of_row _ _ i cs T (0, 0) (heap_alloc_new w _)]
  exact hu
theorem BoxS.then {b : Nat} {cs : Array Value} {W w1 : World} (h : BoxS b cs W) (hb : Below W.heap.size W w1) : BoxS b cs w1 :=
  ⟨Nat.lt_of_lt_of_le h.1 hb.size, fun i u hu => (hb.cell (p := ⟨b, i, none⟩) h.1).trans (h.2 i u hu)⟩
theorem BoxS.alloc {b : Nat} {cs : Array Value} {W : World} (h : BoxS b cs W) (o : Obj) : BoxS b cs (W.alloc o) :=
  h.then ((Below.refl _ _).alloc (Nat.le_refl _) o)
theorem BoxS.drewN {b : Nat} {cs : Array Value} {W : World} (h : BoxS b cs W) (n : Nat) : BoxS b cs (W.drewN n) := h
theorem ret3 {k k' k'' : IntKind} {a b c a' b' c' : Int} (h1 : a = a') (h2 : b = b') (h3 : c = c') : Ending.returned (.tuple #[.int k a, .int k' b, .int k'' c]) = .returned (.tuple #[.int k a', .int k' b', .int k'' c']) := by rw [h1, h2, h3]
theorem bcell {W w1 : World} (hb : Below W.heap.size W w1) : (∀ b o, b < W.heap.size → w1.cell? ⟨b, o, none⟩ = W.cell? ⟨b, o, none⟩) ∧ (∀ b o, b < W.heap.size → w1.frozen? ⟨b, o, none⟩ = W.frozen? ⟨b, o, none⟩) :=
  ⟨fun b o h => hb.cell (p := ⟨b, o, none⟩) h, fun b o h => hb.frozen (p := ⟨b, o, none⟩) h⟩
theorem check_ok (C N S K Q : Int) (w : World) (h : okC C N S K Q = true) :
    Calls Tryz.prog 47 #[.agg #[.int .i64 C, .int .i64 N, .int .i64 S, .int .i64 K, .int .i64 Q]] w fun e w' => e = .returned (.int .i64 0) ∧ Below w.heap.size w w' := by
  refine (check_any C N S K Q w).mono fun e w' h' => ?_
  obtain ⟨h1, h2⟩ := h'
  rw [h1, chkE, if_pos h]
  exact ⟨rfl, h2⟩
theorem check_bad (C N S K Q : Int) (w : World) (h : okC C N S K Q = false) :
    Calls Tryz.prog 47 #[.agg #[.int .i64 C, .int .i64 N, .int .i64 S, .int .i64 K, .int .i64 Q]] w fun e w' => e = .returned (.int .i64 7) ∧ Below w.heap.size w w' := by
  refine (check_any C N S K Q w).mono fun e w' h' => ?_
  obtain ⟨h1, h2⟩ := h'
  rw [h1, chkE, if_neg (by simp [h])]
  exact ⟨rfl, h2⟩

set_option maxHeartbeats 400000 in
theorem words_any (C N S K Q : Int) (w : World) :
    Calls Tryz.prog 42 #[.agg #[.int .i64 C, .int .i64 N, .int .i64 S, .int .i64 K, .int .i64 Q]] w fun e w' => e = .returned (.tuple #[.int .i64 (wdV C N S K Q), .int .i64 (chkE C N S K Q)]) ∧ Below w.heap.size w w' := by
  cases h : okC C N S K Q
  · have H := Lib.hid h
    clear h
    go_enter Tryz.func42, Tryz.ntmps42
    go_wp2_with (first | (go_at_call 47; refine (check_bad _ _ _ _ _ _ H.out).mono ?_; rintro e w1 ⟨rfl, hb⟩; obtain ⟨hc, hf⟩ := bcell hb; have hz := hb.size; simp only [World.size_alloc] at hz) | go_in)
    go_ret2
    exact ⟨by simp [wdV, chkE, H.out], (by repeat (first | exact Old.refl _ | exact hb | apply Old.alloc | apply Old.then (k := hb)))⟩
  · have H := Lib.hid h
    clear h
    have h := H.out
    obtain ⟨h1, h2, h3, h4, h5, h6, h7, h8, h9, h10⟩ := okC_bounds h
    clear h
    obtain ⟨m1, m2⟩ := mul_bounds h1 h2 h3 h4
    go_enter Tryz.func42, Tryz.ntmps42
    go_wp2_with (first | (go_at_call 47; refine (check_ok _ _ _ _ _ _ H.out).mono ?_; rintro e w1 ⟨rfl, hb⟩; obtain ⟨hc, hf⟩ := bcell hb; have hz := hb.size; simp only [World.size_alloc] at hz) | go_in)
    all_goals go_ret2
    all_goals exact ⟨cret2 (by rw [wdV, if_pos H.out]) (by rw [chkE, if_pos H.out]), (by repeat (first | exact Old.refl _ | exact hb | apply Old.alloc | apply Old.then (k := hb)))⟩

set_option maxHeartbeats 400000 in
theorem bound_any (C N S K Q : Int) (w : World) :
    Calls Tryz.prog 44 #[.agg #[.int .i64 C, .int .i64 N, .int .i64 S, .int .i64 K, .int .i64 Q]] w fun e w' => e = .returned (.tuple #[.int .i64 (bdV C N S K Q), .int .i64 (chkE C N S K Q)]) ∧ Below w.heap.size w w' := by
  cases h : okC C N S K Q
  · have H := Lib.hid h
    clear h
    go_enter Tryz.func44, Tryz.ntmps44
    go_wp2_with (first | (go_at_call 47; refine (check_bad _ _ _ _ _ _ H.out).mono ?_; rintro e w1 ⟨rfl, hb⟩; obtain ⟨hc, hf⟩ := bcell hb; have hz := hb.size; simp only [World.size_alloc] at hz) | go_in)
    go_ret2
    exact ⟨by simp [bdV, chkE, H.out], (by repeat (first | exact Old.refl _ | exact hb | apply Old.alloc | apply Old.then (k := hb)))⟩
  · have H := Lib.hid h
    clear h
    have h := H.out
    obtain ⟨h1, h2, h3, h4, h5, h6, h7, h8, h9, h10⟩ := okC_bounds h
    clear h
    obtain ⟨m1, m2⟩ := mul_bounds h1 h2 h3 h4
    obtain ⟨s1, s2⟩ := sq_bounds h1 h2
    obtain ⟨t1, t2⟩ := cube_bounds s1 s2 m1 m2
    go_enter Tryz.func44, Tryz.ntmps44
    go_wp2_with (first | (go_at_call 47; refine (check_ok _ _ _ _ _ _ H.out).mono ?_; rintro e w1 ⟨rfl, hb⟩; obtain ⟨hc, hf⟩ := bcell hb; have hz := hb.size; simp only [World.size_alloc] at hz) | go_in)
    all_goals go_ret2
    all_goals exact ⟨cret2 (by rw [bdV, if_pos H.out]) (by rw [chkE, if_pos H.out]), (by repeat (first | exact Old.refl _ | exact hb | apply Old.alloc | apply Old.then (k := hb)))⟩

set_option maxHeartbeats 1000000 in
theorem space_any (C N S K Q car : Int) (w : World) :
    Calls Tryz.prog 45 #[.agg #[.int .i64 C, .int .i64 N, .int .i64 S, .int .i64 K, .int .i64 Q], .int .i64 car] w fun e w' => e = .returned (.tuple #[.int .i64 (spS C N S K Q car), .int .i64 (spE C N S K Q car), .int .i64 (spX C N S K Q car)]) ∧ Below w.heap.size w w' := by
  cases h : okC C N S K Q
  · have H := Lib.hid h
    clear h
    go_enter Tryz.func45, Tryz.ntmps45
    go_wp2_with (first | (go_at_call 47; refine (check_bad _ _ _ _ _ _ H.out).mono ?_; rintro e w1 ⟨rfl, hb⟩; obtain ⟨hc, hf⟩ := bcell hb; have hz := hb.size; simp only [World.size_alloc] at hz))
    go_ret3
    exact ⟨ret3 (by simp [spS, spOk, H.out]) (by simp [spE, spOk, H.out]) (by simp [spX, spOk, H.out]), (by repeat (first | exact Old.refl _ | exact hb | apply Old.drewN | apply Old.drew | apply Old.alloc | apply Old.then (k := hb)))⟩
  · have H := Lib.hid h
    clear h
    have h := H.out
    obtain ⟨h1, h2, h3, h4, h5, h6, h7, h8, h9, h10⟩ := okC_bounds h
    clear h
    by_cases hr : -1 ≤ car ∧ car < N
    · obtain ⟨r1, r2⟩ := hr
      have HR : Hid (spOk C N S K Q car = true) := by simp [Hid, spOk, H.out, r1, r2]
      by_cases hn : car < 0
      · have n1 : (decide (car < 0)) = true := by simp [hn]
        go_enter Tryz.func45, Tryz.ntmps45
        go_wp2_with (first | (go_at_call 47; refine (check_ok _ _ _ _ _ _ H.out).mono ?_; rintro e w1 ⟨rfl, hb⟩; obtain ⟨hc, hf⟩ := bcell hb; have hz := hb.size; simp only [World.size_alloc] at hz))
        go_quiet (fail)
        go_wp2
        go_ret3
        exact ⟨ret3 (by rw [spS, if_pos HR.out, if_pos hn]) (by rw [spE, if_pos HR.out, if_pos hn]) (by rw [spX, if_pos HR.out]), (by repeat (first | exact Old.refl _ | exact hb | apply Old.drewN | apply Old.drew | apply Old.alloc | apply Old.then (k := hb)))⟩
      · have n1 : 0 ≤ car := by omega
        clear hn
        obtain ⟨m1, m2, m3⟩ := mul_upto (C := C) (k := car) (m := N) n1 (by omega) h3 h4 h2
        go_enter Tryz.func45, Tryz.ntmps45
        go_wp2_with (first | (go_at_call 47; refine (check_ok _ _ _ _ _ _ H.out).mono ?_; rintro e w1 ⟨rfl, hb⟩; obtain ⟨hc, hf⟩ := bcell hb; have hz := hb.size; simp only [World.size_alloc] at hz))
        have q1 : IntKind.i64.wrap (1 + S + car * C + C) = 1 + S + car * C + C := IntWalk.i64_in _ (by omega)
        go_quiet (fail)
        go_wp2
        go_ret3
        exact ⟨ret3 (by rw [spS, if_pos HR.out, if_neg (by omega)]) (by rw [spE, if_pos HR.out, if_neg (by omega)]) (by rw [spX, if_pos HR.out]), (by repeat (first | exact Old.refl _ | exact hb | apply Old.drewN | apply Old.drew | apply Old.alloc | apply Old.then (k := hb)))⟩
    · have HR : Hid (spOk C N S K Q car = false) := by simp only [Hid, spOk, H.out, Bool.true_and, decide_eq_false_iff_not]; exact hr
      have hr' : car < -1 ∨ N ≤ car := by omega
      clear hr
      rcases hr' with hr | hr
      all_goals go_enter Tryz.func45, Tryz.ntmps45
      all_goals go_wp2_with (first | (go_at_call 47; refine (check_ok _ _ _ _ _ _ H.out).mono ?_; rintro e w1 ⟨rfl, hb⟩; obtain ⟨hc, hf⟩ := bcell hb; have hz := hb.size; simp only [World.size_alloc] at hz))
      all_goals go_ret3
      all_goals exact ⟨ret3 (by simp [spS, HR.out]) (by simp [spE, HR.out]) (by simp [spX, HR.out]), (by repeat (first | exact Old.refl _ | exact hb | apply Old.drewN | apply Old.drew | apply Old.alloc | apply Old.then (k := hb)))⟩

theorem words_is (C N S K Q v x : Int) (w : World) (h : wdV C N S K Q = v ∧ chkE C N S K Q = x) :
    Calls Tryz.prog 42 #[.agg #[.int .i64 C, .int .i64 N, .int .i64 S, .int .i64 K, .int .i64 Q]] w fun e w' => e = .returned (.tuple #[.int .i64 v, .int .i64 x]) ∧ Below w.heap.size w w' := by
  obtain ⟨rfl, rfl⟩ := h
  exact words_any C N S K Q w

theorem space_is (C N S K Q a p q x : Int) (w : World) (h : spS C N S K Q a = p ∧ spE C N S K Q a = q ∧ spX C N S K Q a = x) :
    Calls Tryz.prog 45 #[.agg #[.int .i64 C, .int .i64 N, .int .i64 S, .int .i64 K, .int .i64 Q], .int .i64 a] w fun e w' => e = .returned (.tuple #[.int .i64 p, .int .i64 q, .int .i64 x]) ∧ Below w.heap.size w w' := by
  obtain ⟨rfl, rfl, rfl⟩ := h
  exact space_any C N S K Q a w

end Go.Proofs.YtabopillicdjaaaGreatDoor

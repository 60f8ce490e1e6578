/- Package ops: CheckAnswer. -/
import Derived.Test.YtaojogaakhidhaaDoorOpParse
namespace Go.Proofs.YtaojogaakhidhaaDoor
open Go.RowKit
open Sc (OC OA chkE chkA badA WfA)
set_option maxRecDepth 100000 in
set_option maxHeartbeats 4000000 in
theorem cka_bad (k a b f p r v : Int) (x : OA) (w : World) (h : chkE ⟨k, a, b, f, p, r, v⟩ ≠ 0) :
    Calls Tryd.prog 9 #[.agg (ocells ⟨k, a, b, f, p, r, v⟩), .agg (acells x)] w fun o w' => o = .returned (.int .i64 (chkA ⟨k, a, b, f, p, r, v⟩ x)) ∧ Ow w w' := by
  have hEE : chkA ⟨k, a, b, f, p, r, v⟩ x = chkE ⟨k, a, b, f, p, r, v⟩ := by unfold chkA; rw [if_pos h]
  have HE := Lib.hid hEE
  clear hEE
  have HC := Lib.hid (fun W => check_any ⟨k, a, b, f, p, r, v⟩ (chkE ⟨k, a, b, f, p, r, v⟩) rfl W)
  rw [HE.out]
  obtain ⟨m, hm⟩ : ∃ m, chkE ⟨k, a, b, f, p, r, v⟩ = m := ⟨_, rfl⟩
  rw [hm] at HC HE h
  rw [hm]
  have hb : (m == 0) = false := beq_eq_false_iff_ne.2 h
  clear hm h
  obtain ⟨xe, xi, xv⟩ := x
  unfold ocells at HC ⊢
  unfold acells
  go_enter Tryd.func9, Tryd.ntmps9
  go_wp2_with (go_at_call 17; refine (HC.out _).mono ?_; rintro e w1 ⟨rfl, hb1⟩)
  go_ret
  exact ⟨rfl, Ow.then (((Ow.refl _).alloc _).alloc _) hb1⟩
set_option maxRecDepth 100000 in
set_option maxHeartbeats 4000000 in
theorem cka_lo (k a b f p r v : Int) (e : Int) (i : Bool) (x : Int) (w : World) (hc : chkE ⟨k, a, b, f, p, r, v⟩ = 0) (h : e < 0) :
    Calls Tryd.prog 9 #[.agg (ocells ⟨k, a, b, f, p, r, v⟩), .agg (acells ⟨e, i, x⟩)] w fun o w' => o = .returned (.int .i64 (chkA ⟨k, a, b, f, p, r, v⟩ ⟨e, i, x⟩)) ∧ Ow w w' := by
  have hEE : chkA ⟨k, a, b, f, p, r, v⟩ ⟨e, i, x⟩ = 7 := by unfold chkA; simp only; rw [hc, if_neg (fun h => h rfl), if_pos (.inl h)]
  have HE := Lib.hid hEE
  clear hEE
  have HC := Lib.hid (fun W => check_any ⟨k, a, b, f, p, r, v⟩ 0 hc W)
  have HB : Hid (∀ W, Ow ((w.alloc (.cells (ocells ⟨k, a, b, f, p, r, v⟩) 24)).alloc (.cells (acells ⟨e, i, x⟩) 27)) W → Ow w W ∧ Bx w.heap.size (ocells ⟨k, a, b, f, p, r, v⟩) 24 W ∧ Bx (w.heap.size + 1) (acells ⟨e, i, x⟩) 27 W) := fun W h => ⟨Ow.then (((Ow.refl _).alloc _).alloc _) h, ((Bx.new w _ _).alloc _).then h, by simpa using (Bx.new (w.alloc (.cells (ocells ⟨k, a, b, f, p, r, v⟩) 24)) (acells ⟨e, i, x⟩) 27).then h⟩
  rw [HE.out]
  clear hc
  unfold ocells at HC ⊢
  unfold acells
  go_enter Tryd.func9, Tryd.ntmps9
  go_wp2_with (go_at_call 17; refine (HC.out _).mono ?_; rintro e w1 ⟨rfl, hb1⟩; obtain ⟨q0, q1, q2⟩ := HB.out _ hb1; have r0 : w1.cell? ⟨w.heap.size, 0, none⟩ = some (.int .i64 k) := q1.at rfl; have a0 : w1.cell? ⟨w.heap.size + 1, 0, none⟩ = some (.int .i64 e) := q2.at rfl; have a1 : w1.cell? ⟨w.heap.size + 1, 1, none⟩ = some (.bool i) := q2.at rfl; have a2 : w1.cell? ⟨w.heap.size + 1, 2, none⟩ = some (.int .u64 x) := q2.at rfl; have l1 := q1.lt; have l2 := q2.lt; have HO1 := Lib.hid q0; clear q0 q1 q2 hb1)
  go_ret
  refine ⟨rfl, ?_⟩
  first | exact HO1.out | exact HO1.out.alloc _ | exact (HO1.out.alloc _).drew | exact (HO1.out.alloc _).drewN _ | exact ((HO1.out.alloc _).drew).set (by have := HO1.out.size; omega) _ _ | exact ((HO1.out.alloc _).drewN _).set (by have := HO1.out.size; omega) _ _
set_option maxRecDepth 100000 in
set_option maxHeartbeats 4000000 in
theorem cka_hi (k a b f p r v : Int) (e : Int) (i : Bool) (x : Int) (w : World) (hc : chkE ⟨k, a, b, f, p, r, v⟩ = 0) (h : 999 < e) :
    Calls Tryd.prog 9 #[.agg (ocells ⟨k, a, b, f, p, r, v⟩), .agg (acells ⟨e, i, x⟩)] w fun o w' => o = .returned (.int .i64 (chkA ⟨k, a, b, f, p, r, v⟩ ⟨e, i, x⟩)) ∧ Ow w w' := by
  have hEE : chkA ⟨k, a, b, f, p, r, v⟩ ⟨e, i, x⟩ = 7 := by unfold chkA; simp only; rw [hc, if_neg (fun h => h rfl), if_pos (.inr h)]
  have HE := Lib.hid hEE
  clear hEE
  have HC := Lib.hid (fun W => check_any ⟨k, a, b, f, p, r, v⟩ 0 hc W)
  have HB : Hid (∀ W, Ow ((w.alloc (.cells (ocells ⟨k, a, b, f, p, r, v⟩) 24)).alloc (.cells (acells ⟨e, i, x⟩) 27)) W → Ow w W ∧ Bx w.heap.size (ocells ⟨k, a, b, f, p, r, v⟩) 24 W ∧ Bx (w.heap.size + 1) (acells ⟨e, i, x⟩) 27 W) := fun W h => ⟨Ow.then (((Ow.refl _).alloc _).alloc _) h, ((Bx.new w _ _).alloc _).then h, by simpa using (Bx.new (w.alloc (.cells (ocells ⟨k, a, b, f, p, r, v⟩) 24)) (acells ⟨e, i, x⟩) 27).then h⟩
  rw [HE.out]
  have h0 : ¬ e < 0 := by omega
  clear hc
  unfold ocells at HC ⊢
  unfold acells
  go_enter Tryd.func9, Tryd.ntmps9
  go_wp2_with (go_at_call 17; refine (HC.out _).mono ?_; rintro e w1 ⟨rfl, hb1⟩; obtain ⟨q0, q1, q2⟩ := HB.out _ hb1; have r0 : w1.cell? ⟨w.heap.size, 0, none⟩ = some (.int .i64 k) := q1.at rfl; have a0 : w1.cell? ⟨w.heap.size + 1, 0, none⟩ = some (.int .i64 e) := q2.at rfl; have a1 : w1.cell? ⟨w.heap.size + 1, 1, none⟩ = some (.bool i) := q2.at rfl; have a2 : w1.cell? ⟨w.heap.size + 1, 2, none⟩ = some (.int .u64 x) := q2.at rfl; have l1 := q1.lt; have l2 := q2.lt; have HO1 := Lib.hid q0; clear q0 q1 q2 hb1)
  go_ret
  refine ⟨rfl, ?_⟩
  first | exact HO1.out | exact HO1.out.alloc _ | exact (HO1.out.alloc _).drew | exact (HO1.out.alloc _).drewN _ | exact ((HO1.out.alloc _).drew).set (by have := HO1.out.size; omega) _ _ | exact ((HO1.out.alloc _).drewN _).set (by have := HO1.out.size; omega) _ _
set_option maxRecDepth 100000 in
set_option maxHeartbeats 4000000 in
theorem cka_e_t (k a b f p r v : Int) (e x : Int) (w : World) (hc : chkE ⟨k, a, b, f, p, r, v⟩ = 0) (h1 : 0 ≤ e) (h2 : e ≤ 999) (he : e ≠ 0) :
    Calls Tryd.prog 9 #[.agg (ocells ⟨k, a, b, f, p, r, v⟩), .agg (acells ⟨e, true, x⟩)] w fun o w' => o = .returned (.int .i64 (chkA ⟨k, a, b, f, p, r, v⟩ ⟨e, true, x⟩)) ∧ Ow w w' := by
  have hEE : chkA ⟨k, a, b, f, p, r, v⟩ ⟨e, true, x⟩ = 2 := by unfold chkA badA; simp only; rw [hc, if_neg (fun h => h rfl), if_neg (by omega)]; simp [he]
  have HE := Lib.hid hEE
  clear hEE
  have HC := Lib.hid (fun W => check_any ⟨k, a, b, f, p, r, v⟩ 0 hc W)
  have HB : Hid (∀ W, Ow ((w.alloc (.cells (ocells ⟨k, a, b, f, p, r, v⟩) 24)).alloc (.cells (acells ⟨e, true, x⟩) 27)) W → Ow w W ∧ Bx w.heap.size (ocells ⟨k, a, b, f, p, r, v⟩) 24 W ∧ Bx (w.heap.size + 1) (acells ⟨e, true, x⟩) 27 W) := fun W h => ⟨Ow.then (((Ow.refl _).alloc _).alloc _) h, ((Bx.new w _ _).alloc _).then h, by simpa using (Bx.new (w.alloc (.cells (ocells ⟨k, a, b, f, p, r, v⟩) 24)) (acells ⟨e, true, x⟩) 27).then h⟩
  rw [HE.out]
  have h0 : ¬ e < 0 := by omega
  have h9 : ¬ 999 < e := by omega
  have e0 : (e == 0) = false := beq_eq_false_iff_ne.2 he
  clear he
  clear hc
  unfold ocells at HC ⊢
  unfold acells
  go_enter Tryd.func9, Tryd.ntmps9
  go_wp2_with (go_at_call 17; refine (HC.out _).mono ?_; rintro e w1 ⟨rfl, hb1⟩; obtain ⟨q0, q1, q2⟩ := HB.out _ hb1; have r0 : w1.cell? ⟨w.heap.size, 0, none⟩ = some (.int .i64 k) := q1.at rfl; have a0 : w1.cell? ⟨w.heap.size + 1, 0, none⟩ = some (.int .i64 e) := q2.at rfl; have a1 : w1.cell? ⟨w.heap.size + 1, 1, none⟩ = some (.bool true) := q2.at rfl; have a2 : w1.cell? ⟨w.heap.size + 1, 2, none⟩ = some (.int .u64 x) := q2.at rfl; have l1 := q1.lt; have l2 := q2.lt; have HO1 := Lib.hid q0; clear q0 q1 q2 hb1)
  go_ret
  refine ⟨rfl, ?_⟩
  first | exact HO1.out | exact HO1.out.alloc _ | exact (HO1.out.alloc _).drew | exact (HO1.out.alloc _).drewN _ | exact ((HO1.out.alloc _).drew).set (by have := HO1.out.size; omega) _ _ | exact ((HO1.out.alloc _).drewN _).set (by have := HO1.out.size; omega) _ _
set_option maxRecDepth 100000 in
set_option maxHeartbeats 4000000 in
theorem cka_e_v (k a b f p r v : Int) (e x : Int) (w : World) (hc : chkE ⟨k, a, b, f, p, r, v⟩ = 0) (h1 : 0 ≤ e) (h2 : e ≤ 999) (he : e ≠ 0) (hx : x ≠ 0) :
    Calls Tryd.prog 9 #[.agg (ocells ⟨k, a, b, f, p, r, v⟩), .agg (acells ⟨e, false, x⟩)] w fun o w' => o = .returned (.int .i64 (chkA ⟨k, a, b, f, p, r, v⟩ ⟨e, false, x⟩)) ∧ Ow w w' := by
  have hEE : chkA ⟨k, a, b, f, p, r, v⟩ ⟨e, false, x⟩ = 2 := by unfold chkA badA; simp only; rw [hc, if_neg (fun h => h rfl), if_neg (by omega)]; simp [he, hx]
  have HE := Lib.hid hEE
  clear hEE
  have HC := Lib.hid (fun W => check_any ⟨k, a, b, f, p, r, v⟩ 0 hc W)
  have HB : Hid (∀ W, Ow ((w.alloc (.cells (ocells ⟨k, a, b, f, p, r, v⟩) 24)).alloc (.cells (acells ⟨e, false, x⟩) 27)) W → Ow w W ∧ Bx w.heap.size (ocells ⟨k, a, b, f, p, r, v⟩) 24 W ∧ Bx (w.heap.size + 1) (acells ⟨e, false, x⟩) 27 W) := fun W h => ⟨Ow.then (((Ow.refl _).alloc _).alloc _) h, ((Bx.new w _ _).alloc _).then h, by simpa using (Bx.new (w.alloc (.cells (ocells ⟨k, a, b, f, p, r, v⟩) 24)) (acells ⟨e, false, x⟩) 27).then h⟩
  rw [HE.out]
  have h0 : ¬ e < 0 := by omega
  have h9 : ¬ 999 < e := by omega
  have e0 : (e == 0) = false := beq_eq_false_iff_ne.2 he
  clear he
  have x0 : (x == 0) = false := beq_eq_false_iff_ne.2 hx
  clear hx
  clear hc
  unfold ocells at HC ⊢
  unfold acells
  go_enter Tryd.func9, Tryd.ntmps9
  go_wp2_with (go_at_call 17; refine (HC.out _).mono ?_; rintro e w1 ⟨rfl, hb1⟩; obtain ⟨q0, q1, q2⟩ := HB.out _ hb1; have r0 : w1.cell? ⟨w.heap.size, 0, none⟩ = some (.int .i64 k) := q1.at rfl; have a0 : w1.cell? ⟨w.heap.size + 1, 0, none⟩ = some (.int .i64 e) := q2.at rfl; have a1 : w1.cell? ⟨w.heap.size + 1, 1, none⟩ = some (.bool false) := q2.at rfl; have a2 : w1.cell? ⟨w.heap.size + 1, 2, none⟩ = some (.int .u64 x) := q2.at rfl; have l1 := q1.lt; have l2 := q2.lt; have HO1 := Lib.hid q0; clear q0 q1 q2 hb1)
  go_ret
  refine ⟨rfl, ?_⟩
  first | exact HO1.out | exact HO1.out.alloc _ | exact (HO1.out.alloc _).drew | exact (HO1.out.alloc _).drewN _ | exact ((HO1.out.alloc _).drew).set (by have := HO1.out.size; omega) _ _ | exact ((HO1.out.alloc _).drewN _).set (by have := HO1.out.size; omega) _ _
set_option maxRecDepth 100000 in
set_option maxHeartbeats 4000000 in
theorem cka_e_z (k a b f p r v : Int) (e : Int) (w : World) (hc : chkE ⟨k, a, b, f, p, r, v⟩ = 0) (h1 : 0 ≤ e) (h2 : e ≤ 999) (he : e ≠ 0) :
    Calls Tryd.prog 9 #[.agg (ocells ⟨k, a, b, f, p, r, v⟩), .agg (acells ⟨e, false, 0⟩)] w fun o w' => o = .returned (.int .i64 (chkA ⟨k, a, b, f, p, r, v⟩ ⟨e, false, 0⟩)) ∧ Ow w w' := by
  have hEE : chkA ⟨k, a, b, f, p, r, v⟩ ⟨e, false, 0⟩ = 0 := by unfold chkA badA; simp only; rw [hc, if_neg (fun h => h rfl), if_neg (by omega)]; simp [he]
  have HE := Lib.hid hEE
  clear hEE
  have HC := Lib.hid (fun W => check_any ⟨k, a, b, f, p, r, v⟩ 0 hc W)
  have HB : Hid (∀ W, Ow ((w.alloc (.cells (ocells ⟨k, a, b, f, p, r, v⟩) 24)).alloc (.cells (acells ⟨e, false, 0⟩) 27)) W → Ow w W ∧ Bx w.heap.size (ocells ⟨k, a, b, f, p, r, v⟩) 24 W ∧ Bx (w.heap.size + 1) (acells ⟨e, false, 0⟩) 27 W) := fun W h => ⟨Ow.then (((Ow.refl _).alloc _).alloc _) h, ((Bx.new w _ _).alloc _).then h, by simpa using (Bx.new (w.alloc (.cells (ocells ⟨k, a, b, f, p, r, v⟩) 24)) (acells ⟨e, false, 0⟩) 27).then h⟩
  rw [HE.out]
  have h0 : ¬ e < 0 := by omega
  have h9 : ¬ 999 < e := by omega
  have e0 : (e == 0) = false := beq_eq_false_iff_ne.2 he
  clear he
  clear hc
  unfold ocells at HC ⊢
  unfold acells
  go_enter Tryd.func9, Tryd.ntmps9
  go_wp2_with (go_at_call 17; refine (HC.out _).mono ?_; rintro e w1 ⟨rfl, hb1⟩; obtain ⟨q0, q1, q2⟩ := HB.out _ hb1; have r0 : w1.cell? ⟨w.heap.size, 0, none⟩ = some (.int .i64 k) := q1.at rfl; have a0 : w1.cell? ⟨w.heap.size + 1, 0, none⟩ = some (.int .i64 e) := q2.at rfl; have a1 : w1.cell? ⟨w.heap.size + 1, 1, none⟩ = some (.bool false) := q2.at rfl; have a2 : w1.cell? ⟨w.heap.size + 1, 2, none⟩ = some (.int .u64 0) := q2.at rfl; have l1 := q1.lt; have l2 := q2.lt; have HO1 := Lib.hid q0; clear q0 q1 q2 hb1)
  go_ret
  refine ⟨rfl, ?_⟩
  first | exact HO1.out | exact HO1.out.alloc _ | exact (HO1.out.alloc _).drew | exact (HO1.out.alloc _).drewN _ | exact ((HO1.out.alloc _).drew).set (by have := HO1.out.size; omega) _ _ | exact ((HO1.out.alloc _).drewN _).set (by have := HO1.out.size; omega) _ _
set_option maxRecDepth 100000 in
set_option maxHeartbeats 4000000 in
theorem cka_8_v (a b f p r v : Int) (i : Bool) (x : Int) (w : World) (hc : chkE ⟨8, a, b, f, p, r, v⟩ = 0) (hx : x ≠ 0) :
    Calls Tryd.prog 9 #[.agg (ocells ⟨8, a, b, f, p, r, v⟩), .agg (acells ⟨0, i, x⟩)] w fun o w' => o = .returned (.int .i64 (chkA ⟨8, a, b, f, p, r, v⟩ ⟨0, i, x⟩)) ∧ Ow w w' := by
  have hEE : chkA ⟨8, a, b, f, p, r, v⟩ ⟨0, i, x⟩ = 2 := by unfold chkA badA; simp only; rw [hc, if_neg (fun h => h rfl), if_neg (by omega)]; simp [hx]
  have HE := Lib.hid hEE
  clear hEE
  have HC := Lib.hid (fun W => check_any ⟨8, a, b, f, p, r, v⟩ 0 hc W)
  have HB : Hid (∀ W, Ow ((w.alloc (.cells (ocells ⟨8, a, b, f, p, r, v⟩) 24)).alloc (.cells (acells ⟨0, i, x⟩) 27)) W → Ow w W ∧ Bx w.heap.size (ocells ⟨8, a, b, f, p, r, v⟩) 24 W ∧ Bx (w.heap.size + 1) (acells ⟨0, i, x⟩) 27 W) := fun W h => ⟨Ow.then (((Ow.refl _).alloc _).alloc _) h, ((Bx.new w _ _).alloc _).then h, by simpa using (Bx.new (w.alloc (.cells (ocells ⟨8, a, b, f, p, r, v⟩) 24)) (acells ⟨0, i, x⟩) 27).then h⟩
  rw [HE.out]
  have x0 : (x == 0) = false := beq_eq_false_iff_ne.2 hx
  clear hx
  clear hc
  unfold ocells at HC ⊢
  unfold acells
  go_enter Tryd.func9, Tryd.ntmps9
  go_wp2_with (go_at_call 17; refine (HC.out _).mono ?_; rintro e w1 ⟨rfl, hb1⟩; obtain ⟨q0, q1, q2⟩ := HB.out _ hb1; have r0 : w1.cell? ⟨w.heap.size, 0, none⟩ = some (.int .i64 8) := q1.at rfl; have a0 : w1.cell? ⟨w.heap.size + 1, 0, none⟩ = some (.int .i64 0) := q2.at rfl; have a1 : w1.cell? ⟨w.heap.size + 1, 1, none⟩ = some (.bool i) := q2.at rfl; have a2 : w1.cell? ⟨w.heap.size + 1, 2, none⟩ = some (.int .u64 x) := q2.at rfl; have l1 := q1.lt; have l2 := q2.lt; have HO1 := Lib.hid q0; clear q0 q1 q2 hb1)
  go_ret
  refine ⟨rfl, ?_⟩
  first | exact HO1.out | exact HO1.out.alloc _ | exact (HO1.out.alloc _).drew | exact (HO1.out.alloc _).drewN _ | exact ((HO1.out.alloc _).drew).set (by have := HO1.out.size; omega) _ _ | exact ((HO1.out.alloc _).drewN _).set (by have := HO1.out.size; omega) _ _
set_option maxRecDepth 100000 in
set_option maxHeartbeats 4000000 in
theorem cka_8_z (a b f p r v : Int) (i : Bool) (w : World) (hc : chkE ⟨8, a, b, f, p, r, v⟩ = 0) :
    Calls Tryd.prog 9 #[.agg (ocells ⟨8, a, b, f, p, r, v⟩), .agg (acells ⟨0, i, 0⟩)] w fun o w' => o = .returned (.int .i64 (chkA ⟨8, a, b, f, p, r, v⟩ ⟨0, i, 0⟩)) ∧ Ow w w' := by
  have hEE : chkA ⟨8, a, b, f, p, r, v⟩ ⟨0, i, 0⟩ = 0 := by unfold chkA badA; simp only; rw [hc, if_neg (fun h => h rfl), if_neg (by omega)]; simp []
  have HE := Lib.hid hEE
  clear hEE
  have HC := Lib.hid (fun W => check_any ⟨8, a, b, f, p, r, v⟩ 0 hc W)
  have HB : Hid (∀ W, Ow ((w.alloc (.cells (ocells ⟨8, a, b, f, p, r, v⟩) 24)).alloc (.cells (acells ⟨0, i, 0⟩) 27)) W → Ow w W ∧ Bx w.heap.size (ocells ⟨8, a, b, f, p, r, v⟩) 24 W ∧ Bx (w.heap.size + 1) (acells ⟨0, i, 0⟩) 27 W) := fun W h => ⟨Ow.then (((Ow.refl _).alloc _).alloc _) h, ((Bx.new w _ _).alloc _).then h, by simpa using (Bx.new (w.alloc (.cells (ocells ⟨8, a, b, f, p, r, v⟩) 24)) (acells ⟨0, i, 0⟩) 27).then h⟩
  rw [HE.out]
  clear hc
  unfold ocells at HC ⊢
  unfold acells
  go_enter Tryd.func9, Tryd.ntmps9
  go_wp2_with (go_at_call 17; refine (HC.out _).mono ?_; rintro e w1 ⟨rfl, hb1⟩; obtain ⟨q0, q1, q2⟩ := HB.out _ hb1; have r0 : w1.cell? ⟨w.heap.size, 0, none⟩ = some (.int .i64 8) := q1.at rfl; have a0 : w1.cell? ⟨w.heap.size + 1, 0, none⟩ = some (.int .i64 0) := q2.at rfl; have a1 : w1.cell? ⟨w.heap.size + 1, 1, none⟩ = some (.bool i) := q2.at rfl; have a2 : w1.cell? ⟨w.heap.size + 1, 2, none⟩ = some (.int .u64 0) := q2.at rfl; have l1 := q1.lt; have l2 := q2.lt; have HO1 := Lib.hid q0; clear q0 q1 q2 hb1)
  go_ret
  refine ⟨rfl, ?_⟩
  first | exact HO1.out | exact HO1.out.alloc _ | exact (HO1.out.alloc _).drew | exact (HO1.out.alloc _).drewN _ | exact ((HO1.out.alloc _).drew).set (by have := HO1.out.size; omega) _ _ | exact ((HO1.out.alloc _).drewN _).set (by have := HO1.out.size; omega) _ _
set_option maxRecDepth 100000 in
set_option maxHeartbeats 4000000 in
theorem cka_9_v (a b f p r v : Int) (i : Bool) (x : Int) (w : World) (hc : chkE ⟨9, a, b, f, p, r, v⟩ = 0) (hx : x ≠ 0) :
    Calls Tryd.prog 9 #[.agg (ocells ⟨9, a, b, f, p, r, v⟩), .agg (acells ⟨0, i, x⟩)] w fun o w' => o = .returned (.int .i64 (chkA ⟨9, a, b, f, p, r, v⟩ ⟨0, i, x⟩)) ∧ Ow w w' := by
  have hEE : chkA ⟨9, a, b, f, p, r, v⟩ ⟨0, i, x⟩ = 2 := by unfold chkA badA; simp only; rw [hc, if_neg (fun h => h rfl), if_neg (by omega)]; simp [hx]
  have HE := Lib.hid hEE
  clear hEE
  have HC := Lib.hid (fun W => check_any ⟨9, a, b, f, p, r, v⟩ 0 hc W)
  have HB : Hid (∀ W, Ow ((w.alloc (.cells (ocells ⟨9, a, b, f, p, r, v⟩) 24)).alloc (.cells (acells ⟨0, i, x⟩) 27)) W → Ow w W ∧ Bx w.heap.size (ocells ⟨9, a, b, f, p, r, v⟩) 24 W ∧ Bx (w.heap.size + 1) (acells ⟨0, i, x⟩) 27 W) := fun W h => ⟨Ow.then (((Ow.refl _).alloc _).alloc _) h, ((Bx.new w _ _).alloc _).then h, by simpa using (Bx.new (w.alloc (.cells (ocells ⟨9, a, b, f, p, r, v⟩) 24)) (acells ⟨0, i, x⟩) 27).then h⟩
  rw [HE.out]
  have x0 : (x == 0) = false := beq_eq_false_iff_ne.2 hx
  clear hx
  clear hc
  unfold ocells at HC ⊢
  unfold acells
  go_enter Tryd.func9, Tryd.ntmps9
  go_wp2_with (go_at_call 17; refine (HC.out _).mono ?_; rintro e w1 ⟨rfl, hb1⟩; obtain ⟨q0, q1, q2⟩ := HB.out _ hb1; have r0 : w1.cell? ⟨w.heap.size, 0, none⟩ = some (.int .i64 9) := q1.at rfl; have a0 : w1.cell? ⟨w.heap.size + 1, 0, none⟩ = some (.int .i64 0) := q2.at rfl; have a1 : w1.cell? ⟨w.heap.size + 1, 1, none⟩ = some (.bool i) := q2.at rfl; have a2 : w1.cell? ⟨w.heap.size + 1, 2, none⟩ = some (.int .u64 x) := q2.at rfl; have l1 := q1.lt; have l2 := q2.lt; have HO1 := Lib.hid q0; clear q0 q1 q2 hb1)
  go_ret
  refine ⟨rfl, ?_⟩
  first | exact HO1.out | exact HO1.out.alloc _ | exact (HO1.out.alloc _).drew | exact (HO1.out.alloc _).drewN _ | exact ((HO1.out.alloc _).drew).set (by have := HO1.out.size; omega) _ _ | exact ((HO1.out.alloc _).drewN _).set (by have := HO1.out.size; omega) _ _
set_option maxRecDepth 100000 in
set_option maxHeartbeats 4000000 in
theorem cka_9_z (a b f p r v : Int) (i : Bool) (w : World) (hc : chkE ⟨9, a, b, f, p, r, v⟩ = 0) :
    Calls Tryd.prog 9 #[.agg (ocells ⟨9, a, b, f, p, r, v⟩), .agg (acells ⟨0, i, 0⟩)] w fun o w' => o = .returned (.int .i64 (chkA ⟨9, a, b, f, p, r, v⟩ ⟨0, i, 0⟩)) ∧ Ow w w' := by
  have hEE : chkA ⟨9, a, b, f, p, r, v⟩ ⟨0, i, 0⟩ = 0 := by unfold chkA badA; simp only; rw [hc, if_neg (fun h => h rfl), if_neg (by omega)]; simp []
  have HE := Lib.hid hEE
  clear hEE
  have HC := Lib.hid (fun W => check_any ⟨9, a, b, f, p, r, v⟩ 0 hc W)
  have HB : Hid (∀ W, Ow ((w.alloc (.cells (ocells ⟨9, a, b, f, p, r, v⟩) 24)).alloc (.cells (acells ⟨0, i, 0⟩) 27)) W → Ow w W ∧ Bx w.heap.size (ocells ⟨9, a, b, f, p, r, v⟩) 24 W ∧ Bx (w.heap.size + 1) (acells ⟨0, i, 0⟩) 27 W) := fun W h => ⟨Ow.then (((Ow.refl _).alloc _).alloc _) h, ((Bx.new w _ _).alloc _).then h, by simpa using (Bx.new (w.alloc (.cells (ocells ⟨9, a, b, f, p, r, v⟩) 24)) (acells ⟨0, i, 0⟩) 27).then h⟩
  rw [HE.out]
  clear hc
  unfold ocells at HC ⊢
  unfold acells
  go_enter Tryd.func9, Tryd.ntmps9
  go_wp2_with (go_at_call 17; refine (HC.out _).mono ?_; rintro e w1 ⟨rfl, hb1⟩; obtain ⟨q0, q1, q2⟩ := HB.out _ hb1; have r0 : w1.cell? ⟨w.heap.size, 0, none⟩ = some (.int .i64 9) := q1.at rfl; have a0 : w1.cell? ⟨w.heap.size + 1, 0, none⟩ = some (.int .i64 0) := q2.at rfl; have a1 : w1.cell? ⟨w.heap.size + 1, 1, none⟩ = some (.bool i) := q2.at rfl; have a2 : w1.cell? ⟨w.heap.size + 1, 2, none⟩ = some (.int .u64 0) := q2.at rfl; have l1 := q1.lt; have l2 := q2.lt; have HO1 := Lib.hid q0; clear q0 q1 q2 hb1)
  go_ret
  refine ⟨rfl, ?_⟩
  first | exact HO1.out | exact HO1.out.alloc _ | exact (HO1.out.alloc _).drew | exact (HO1.out.alloc _).drewN _ | exact ((HO1.out.alloc _).drew).set (by have := HO1.out.size; omega) _ _ | exact ((HO1.out.alloc _).drewN _).set (by have := HO1.out.size; omega) _ _
set_option maxRecDepth 100000 in
set_option maxHeartbeats 4000000 in
theorem cka_4_t (a b f p r v : Int) (x : Int) (w : World) (hc : chkE ⟨4, a, b, f, p, r, v⟩ = 0) :
    Calls Tryd.prog 9 #[.agg (ocells ⟨4, a, b, f, p, r, v⟩), .agg (acells ⟨0, true, x⟩)] w fun o w' => o = .returned (.int .i64 (chkA ⟨4, a, b, f, p, r, v⟩ ⟨0, true, x⟩)) ∧ Ow w w' := by
  have hEE : chkA ⟨4, a, b, f, p, r, v⟩ ⟨0, true, x⟩ = 2 := by unfold chkA badA; simp only; rw [hc, if_neg (fun h => h rfl), if_neg (by omega)]; simp []
  have HE := Lib.hid hEE
  clear hEE
  have HC := Lib.hid (fun W => check_any ⟨4, a, b, f, p, r, v⟩ 0 hc W)
  have HB : Hid (∀ W, Ow ((w.alloc (.cells (ocells ⟨4, a, b, f, p, r, v⟩) 24)).alloc (.cells (acells ⟨0, true, x⟩) 27)) W → Ow w W ∧ Bx w.heap.size (ocells ⟨4, a, b, f, p, r, v⟩) 24 W ∧ Bx (w.heap.size + 1) (acells ⟨0, true, x⟩) 27 W) := fun W h => ⟨Ow.then (((Ow.refl _).alloc _).alloc _) h, ((Bx.new w _ _).alloc _).then h, by simpa using (Bx.new (w.alloc (.cells (ocells ⟨4, a, b, f, p, r, v⟩) 24)) (acells ⟨0, true, x⟩) 27).then h⟩
  rw [HE.out]
  clear hc
  unfold ocells at HC ⊢
  unfold acells
  go_enter Tryd.func9, Tryd.ntmps9
  go_wp2_with (go_at_call 17; refine (HC.out _).mono ?_; rintro e w1 ⟨rfl, hb1⟩; obtain ⟨q0, q1, q2⟩ := HB.out _ hb1; have r0 : w1.cell? ⟨w.heap.size, 0, none⟩ = some (.int .i64 4) := q1.at rfl; have a0 : w1.cell? ⟨w.heap.size + 1, 0, none⟩ = some (.int .i64 0) := q2.at rfl; have a1 : w1.cell? ⟨w.heap.size + 1, 1, none⟩ = some (.bool true) := q2.at rfl; have a2 : w1.cell? ⟨w.heap.size + 1, 2, none⟩ = some (.int .u64 x) := q2.at rfl; have l1 := q1.lt; have l2 := q2.lt; have HO1 := Lib.hid q0; clear q0 q1 q2 hb1)
  go_ret
  refine ⟨rfl, ?_⟩
  first | exact HO1.out | exact HO1.out.alloc _ | exact (HO1.out.alloc _).drew | exact (HO1.out.alloc _).drewN _ | exact ((HO1.out.alloc _).drew).set (by have := HO1.out.size; omega) _ _ | exact ((HO1.out.alloc _).drewN _).set (by have := HO1.out.size; omega) _ _
set_option maxRecDepth 100000 in
set_option maxHeartbeats 4000000 in
theorem cka_4_f (a b f p r v : Int) (x : Int) (w : World) (hc : chkE ⟨4, a, b, f, p, r, v⟩ = 0) :
    Calls Tryd.prog 9 #[.agg (ocells ⟨4, a, b, f, p, r, v⟩), .agg (acells ⟨0, false, x⟩)] w fun o w' => o = .returned (.int .i64 (chkA ⟨4, a, b, f, p, r, v⟩ ⟨0, false, x⟩)) ∧ Ow w w' := by
  have hEE : chkA ⟨4, a, b, f, p, r, v⟩ ⟨0, false, x⟩ = 0 := by unfold chkA badA; simp only; rw [hc, if_neg (fun h => h rfl), if_neg (by omega)]; simp []
  have HE := Lib.hid hEE
  clear hEE
  have HC := Lib.hid (fun W => check_any ⟨4, a, b, f, p, r, v⟩ 0 hc W)
  have HB : Hid (∀ W, Ow ((w.alloc (.cells (ocells ⟨4, a, b, f, p, r, v⟩) 24)).alloc (.cells (acells ⟨0, false, x⟩) 27)) W → Ow w W ∧ Bx w.heap.size (ocells ⟨4, a, b, f, p, r, v⟩) 24 W ∧ Bx (w.heap.size + 1) (acells ⟨0, false, x⟩) 27 W) := fun W h => ⟨Ow.then (((Ow.refl _).alloc _).alloc _) h, ((Bx.new w _ _).alloc _).then h, by simpa using (Bx.new (w.alloc (.cells (ocells ⟨4, a, b, f, p, r, v⟩) 24)) (acells ⟨0, false, x⟩) 27).then h⟩
  rw [HE.out]
  clear hc
  unfold ocells at HC ⊢
  unfold acells
  go_enter Tryd.func9, Tryd.ntmps9
  go_wp2_with (go_at_call 17; refine (HC.out _).mono ?_; rintro e w1 ⟨rfl, hb1⟩; obtain ⟨q0, q1, q2⟩ := HB.out _ hb1; have r0 : w1.cell? ⟨w.heap.size, 0, none⟩ = some (.int .i64 4) := q1.at rfl; have a0 : w1.cell? ⟨w.heap.size + 1, 0, none⟩ = some (.int .i64 0) := q2.at rfl; have a1 : w1.cell? ⟨w.heap.size + 1, 1, none⟩ = some (.bool false) := q2.at rfl; have a2 : w1.cell? ⟨w.heap.size + 1, 2, none⟩ = some (.int .u64 x) := q2.at rfl; have l1 := q1.lt; have l2 := q2.lt; have HO1 := Lib.hid q0; clear q0 q1 q2 hb1)
  go_ret
  refine ⟨rfl, ?_⟩
  first | exact HO1.out | exact HO1.out.alloc _ | exact (HO1.out.alloc _).drew | exact (HO1.out.alloc _).drewN _ | exact ((HO1.out.alloc _).drew).set (by have := HO1.out.size; omega) _ _ | exact ((HO1.out.alloc _).drewN _).set (by have := HO1.out.size; omega) _ _
set_option maxRecDepth 100000 in
set_option maxHeartbeats 4000000 in
theorem cka_10_ok (a b f p r v : Int) (x : Nat) (w : World) (hc : chkE ⟨10, a, b, f, p, r, v⟩ = 0) (hx64 : x < 18446744073709551616) (hp : x / 256 ≤ 31) (hr : x % 256 ≤ 31) :
    Calls Tryd.prog 9 #[.agg (ocells ⟨10, a, b, f, p, r, v⟩), .agg (acells ⟨0, false, (x : Int)⟩)] w fun o w' => o = .returned (.int .i64 (chkA ⟨10, a, b, f, p, r, v⟩ ⟨0, false, (x : Int)⟩)) ∧ Ow w w' := by
  have hEE : chkA ⟨10, a, b, f, p, r, v⟩ ⟨0, false, (x : Int)⟩ = 0 := by
     have e1 : (31 : Int) < (x : Int) / 256 ↔ 31 < x / 256 := by omega
     have e2 : (31 : Int) < (x : Int) % 256 ↔ 31 < x % 256 := by omega
     unfold chkA badA; simp only; rw [hc, if_neg (fun h => h rfl), if_neg (by omega)]; simp [e1, e2]; omega
  have HE := Lib.hid hEE
  clear hEE
  have HC := Lib.hid (fun W => check_any ⟨10, a, b, f, p, r, v⟩ 0 hc W)
  have HB : Hid (∀ W, Ow ((w.alloc (.cells (ocells ⟨10, a, b, f, p, r, v⟩) 24)).alloc (.cells (acells ⟨0, false, (x : Int)⟩) 27)) W → Ow w W ∧ Bx w.heap.size (ocells ⟨10, a, b, f, p, r, v⟩) 24 W ∧ Bx (w.heap.size + 1) (acells ⟨0, false, (x : Int)⟩) 27 W) := fun W h => ⟨Ow.then (((Ow.refl _).alloc _).alloc _) h, ((Bx.new w _ _).alloc _).then h, by simpa using (Bx.new (w.alloc (.cells (ocells ⟨10, a, b, f, p, r, v⟩) 24)) (acells ⟨0, false, (x : Int)⟩) 27).then h⟩
  rw [HE.out]
  obtain ⟨P, hP⟩ : ∃ P, x / 256 = P := ⟨_, rfl⟩
  obtain ⟨R, hR⟩ : ∃ R, x % 256 = R := ⟨_, rfl⟩
  rw [hP] at hp
  rw [hR] at hr
  have hP2 : (x : Int) / 256 = (P : Int) := by omega
  have hR2 : (x : Int) % 256 = (R : Int) := by omega
  have hp2 : (P : Int) ≤ 31 := by omega
  have hr2 : (R : Int) ≤ 31 := by omega
  clear hP hR
  clear hc
  unfold ocells at HC ⊢
  unfold acells
  go_enter Tryd.func9, Tryd.ntmps9
  go_wp2_with (go_at_call 17; refine (HC.out _).mono ?_; rintro e w1 ⟨rfl, hb1⟩; obtain ⟨q0, q1, q2⟩ := HB.out _ hb1; have r0 : w1.cell? ⟨w.heap.size, 0, none⟩ = some (.int .i64 10) := q1.at rfl; have a0 : w1.cell? ⟨w.heap.size + 1, 0, none⟩ = some (.int .i64 0) := q2.at rfl; have a1 : w1.cell? ⟨w.heap.size + 1, 1, none⟩ = some (.bool false) := q2.at rfl; have a2 : w1.cell? ⟨w.heap.size + 1, 2, none⟩ = some (.int .u64 (x : Int)) := q2.at rfl; have l1 := q1.lt; have l2 := q2.lt; have HO1 := Lib.hid q0; clear q0 q1 q2 hb1)
  go_quiet (fail)
  go_wp2_with fail
  go_ret
  refine ⟨rfl, ?_⟩
  first | exact HO1.out | exact HO1.out.alloc _ | exact (HO1.out.alloc _).drew | exact (HO1.out.alloc _).drewN _ | exact ((HO1.out.alloc _).drew).set (by have := HO1.out.size; omega) _ _ | exact ((HO1.out.alloc _).drewN _).set (by have := HO1.out.size; omega) _ _
set_option maxRecDepth 100000 in
set_option maxHeartbeats 4000000 in
theorem cka_10_is (a b f p r v : Int) (x : Nat) (w : World) (hc : chkE ⟨10, a, b, f, p, r, v⟩ = 0) (hx64 : x < 18446744073709551616) (hp : x / 256 ≤ 31) (hr : x % 256 ≤ 31) :
    Calls Tryd.prog 9 #[.agg (ocells ⟨10, a, b, f, p, r, v⟩), .agg (acells ⟨0, true, (x : Int)⟩)] w fun o w' => o = .returned (.int .i64 (chkA ⟨10, a, b, f, p, r, v⟩ ⟨0, true, (x : Int)⟩)) ∧ Ow w w' := by
  have hEE : chkA ⟨10, a, b, f, p, r, v⟩ ⟨0, true, (x : Int)⟩ = 2 := by
     have e1 : (31 : Int) < (x : Int) / 256 ↔ 31 < x / 256 := by omega
     have e2 : (31 : Int) < (x : Int) % 256 ↔ 31 < x % 256 := by omega
     unfold chkA badA; simp only; rw [hc, if_neg (fun h => h rfl), if_neg (by omega)]; simp [e1, e2]
  have HE := Lib.hid hEE
  clear hEE
  have HC := Lib.hid (fun W => check_any ⟨10, a, b, f, p, r, v⟩ 0 hc W)
  have HB : Hid (∀ W, Ow ((w.alloc (.cells (ocells ⟨10, a, b, f, p, r, v⟩) 24)).alloc (.cells (acells ⟨0, true, (x : Int)⟩) 27)) W → Ow w W ∧ Bx w.heap.size (ocells ⟨10, a, b, f, p, r, v⟩) 24 W ∧ Bx (w.heap.size + 1) (acells ⟨0, true, (x : Int)⟩) 27 W) := fun W h => ⟨Ow.then (((Ow.refl _).alloc _).alloc _) h, ((Bx.new w _ _).alloc _).then h, by simpa using (Bx.new (w.alloc (.cells (ocells ⟨10, a, b, f, p, r, v⟩) 24)) (acells ⟨0, true, (x : Int)⟩) 27).then h⟩
  rw [HE.out]
  obtain ⟨P, hP⟩ : ∃ P, x / 256 = P := ⟨_, rfl⟩
  obtain ⟨R, hR⟩ : ∃ R, x % 256 = R := ⟨_, rfl⟩
  rw [hP] at hp
  rw [hR] at hr
  have hP2 : (x : Int) / 256 = (P : Int) := by omega
  have hR2 : (x : Int) % 256 = (R : Int) := by omega
  have hp2 : (P : Int) ≤ 31 := by omega
  have hr2 : (R : Int) ≤ 31 := by omega
  clear hP hR
  clear hc
  unfold ocells at HC ⊢
  unfold acells
  go_enter Tryd.func9, Tryd.ntmps9
  go_wp2_with (go_at_call 17; refine (HC.out _).mono ?_; rintro e w1 ⟨rfl, hb1⟩; obtain ⟨q0, q1, q2⟩ := HB.out _ hb1; have r0 : w1.cell? ⟨w.heap.size, 0, none⟩ = some (.int .i64 10) := q1.at rfl; have a0 : w1.cell? ⟨w.heap.size + 1, 0, none⟩ = some (.int .i64 0) := q2.at rfl; have a1 : w1.cell? ⟨w.heap.size + 1, 1, none⟩ = some (.bool true) := q2.at rfl; have a2 : w1.cell? ⟨w.heap.size + 1, 2, none⟩ = some (.int .u64 (x : Int)) := q2.at rfl; have l1 := q1.lt; have l2 := q2.lt; have HO1 := Lib.hid q0; clear q0 q1 q2 hb1)
  go_quiet (fail)
  go_wp2_with fail
  go_ret
  refine ⟨rfl, ?_⟩
  first | exact HO1.out | exact HO1.out.alloc _ | exact (HO1.out.alloc _).drew | exact (HO1.out.alloc _).drewN _ | exact ((HO1.out.alloc _).drew).set (by have := HO1.out.size; omega) _ _ | exact ((HO1.out.alloc _).drewN _).set (by have := HO1.out.size; omega) _ _
set_option maxRecDepth 100000 in
set_option maxHeartbeats 4000000 in
theorem cka_10_p (a b f p r v : Int) (x : Nat) (w : World) (hc : chkE ⟨10, a, b, f, p, r, v⟩ = 0) (hx64 : x < 18446744073709551616) (hp : 31 < x / 256) :
    Calls Tryd.prog 9 #[.agg (ocells ⟨10, a, b, f, p, r, v⟩), .agg (acells ⟨0, false, (x : Int)⟩)] w fun o w' => o = .returned (.int .i64 (chkA ⟨10, a, b, f, p, r, v⟩ ⟨0, false, (x : Int)⟩)) ∧ Ow w w' := by
  have hEE : chkA ⟨10, a, b, f, p, r, v⟩ ⟨0, false, (x : Int)⟩ = 2 := by
     have e1 : (31 : Int) < (x : Int) / 256 ↔ 31 < x / 256 := by omega
     have e2 : (31 : Int) < (x : Int) % 256 ↔ 31 < x % 256 := by omega
     unfold chkA badA; simp only; rw [hc, if_neg (fun h => h rfl), if_neg (by omega)]; simp [e1, e2]; omega
  have HE := Lib.hid hEE
  clear hEE
  have HC := Lib.hid (fun W => check_any ⟨10, a, b, f, p, r, v⟩ 0 hc W)
  have HB : Hid (∀ W, Ow ((w.alloc (.cells (ocells ⟨10, a, b, f, p, r, v⟩) 24)).alloc (.cells (acells ⟨0, false, (x : Int)⟩) 27)) W → Ow w W ∧ Bx w.heap.size (ocells ⟨10, a, b, f, p, r, v⟩) 24 W ∧ Bx (w.heap.size + 1) (acells ⟨0, false, (x : Int)⟩) 27 W) := fun W h => ⟨Ow.then (((Ow.refl _).alloc _).alloc _) h, ((Bx.new w _ _).alloc _).then h, by simpa using (Bx.new (w.alloc (.cells (ocells ⟨10, a, b, f, p, r, v⟩) 24)) (acells ⟨0, false, (x : Int)⟩) 27).then h⟩
  rw [HE.out]
  obtain ⟨P, hP⟩ : ∃ P, x / 256 = P := ⟨_, rfl⟩
  obtain ⟨R, hR⟩ : ∃ R, x % 256 = R := ⟨_, rfl⟩
  rw [hP] at hp
  have hP2 : (x : Int) / 256 = (P : Int) := by omega
  have hR2 : (x : Int) % 256 = (R : Int) := by omega
  have hp2 : ¬ (P : Int) ≤ 31 := by omega
  clear hP hR
  have x0 : ((x : Int) == 0) = false := beq_eq_false_iff_ne.2 (by omega)
  clear hc
  unfold ocells at HC ⊢
  unfold acells
  go_enter Tryd.func9, Tryd.ntmps9
  go_wp2_with (go_at_call 17; refine (HC.out _).mono ?_; rintro e w1 ⟨rfl, hb1⟩; obtain ⟨q0, q1, q2⟩ := HB.out _ hb1; have r0 : w1.cell? ⟨w.heap.size, 0, none⟩ = some (.int .i64 10) := q1.at rfl; have a0 : w1.cell? ⟨w.heap.size + 1, 0, none⟩ = some (.int .i64 0) := q2.at rfl; have a1 : w1.cell? ⟨w.heap.size + 1, 1, none⟩ = some (.bool false) := q2.at rfl; have a2 : w1.cell? ⟨w.heap.size + 1, 2, none⟩ = some (.int .u64 (x : Int)) := q2.at rfl; have l1 := q1.lt; have l2 := q2.lt; have HO1 := Lib.hid q0; clear q0 q1 q2 hb1)
  go_quiet (fail)
  go_wp2_with fail
  go_ret
  refine ⟨rfl, ?_⟩
  first | exact HO1.out | exact HO1.out.alloc _ | exact (HO1.out.alloc _).drew | exact (HO1.out.alloc _).drewN _ | exact ((HO1.out.alloc _).drew).set (by have := HO1.out.size; omega) _ _ | exact ((HO1.out.alloc _).drewN _).set (by have := HO1.out.size; omega) _ _
set_option maxRecDepth 100000 in
set_option maxHeartbeats 4000000 in
theorem cka_10_pt (a b f p r v : Int) (x : Nat) (w : World) (hc : chkE ⟨10, a, b, f, p, r, v⟩ = 0) (hx64 : x < 18446744073709551616) (hp : 31 < x / 256) :
    Calls Tryd.prog 9 #[.agg (ocells ⟨10, a, b, f, p, r, v⟩), .agg (acells ⟨0, true, (x : Int)⟩)] w fun o w' => o = .returned (.int .i64 (chkA ⟨10, a, b, f, p, r, v⟩ ⟨0, true, (x : Int)⟩)) ∧ Ow w w' := by
  have hEE : chkA ⟨10, a, b, f, p, r, v⟩ ⟨0, true, (x : Int)⟩ = 2 := by
     have e1 : (31 : Int) < (x : Int) / 256 ↔ 31 < x / 256 := by omega
     have e2 : (31 : Int) < (x : Int) % 256 ↔ 31 < x % 256 := by omega
     unfold chkA badA; simp only; rw [hc, if_neg (fun h => h rfl), if_neg (by omega)]; simp [e1, e2]
  have HE := Lib.hid hEE
  clear hEE
  have HC := Lib.hid (fun W => check_any ⟨10, a, b, f, p, r, v⟩ 0 hc W)
  have HB : Hid (∀ W, Ow ((w.alloc (.cells (ocells ⟨10, a, b, f, p, r, v⟩) 24)).alloc (.cells (acells ⟨0, true, (x : Int)⟩) 27)) W → Ow w W ∧ Bx w.heap.size (ocells ⟨10, a, b, f, p, r, v⟩) 24 W ∧ Bx (w.heap.size + 1) (acells ⟨0, true, (x : Int)⟩) 27 W) := fun W h => ⟨Ow.then (((Ow.refl _).alloc _).alloc _) h, ((Bx.new w _ _).alloc _).then h, by simpa using (Bx.new (w.alloc (.cells (ocells ⟨10, a, b, f, p, r, v⟩) 24)) (acells ⟨0, true, (x : Int)⟩) 27).then h⟩
  rw [HE.out]
  obtain ⟨P, hP⟩ : ∃ P, x / 256 = P := ⟨_, rfl⟩
  obtain ⟨R, hR⟩ : ∃ R, x % 256 = R := ⟨_, rfl⟩
  rw [hP] at hp
  have hP2 : (x : Int) / 256 = (P : Int) := by omega
  have hR2 : (x : Int) % 256 = (R : Int) := by omega
  have hp2 : ¬ (P : Int) ≤ 31 := by omega
  clear hP hR
  clear hc
  unfold ocells at HC ⊢
  unfold acells
  go_enter Tryd.func9, Tryd.ntmps9
  go_wp2_with (go_at_call 17; refine (HC.out _).mono ?_; rintro e w1 ⟨rfl, hb1⟩; obtain ⟨q0, q1, q2⟩ := HB.out _ hb1; have r0 : w1.cell? ⟨w.heap.size, 0, none⟩ = some (.int .i64 10) := q1.at rfl; have a0 : w1.cell? ⟨w.heap.size + 1, 0, none⟩ = some (.int .i64 0) := q2.at rfl; have a1 : w1.cell? ⟨w.heap.size + 1, 1, none⟩ = some (.bool true) := q2.at rfl; have a2 : w1.cell? ⟨w.heap.size + 1, 2, none⟩ = some (.int .u64 (x : Int)) := q2.at rfl; have l1 := q1.lt; have l2 := q2.lt; have HO1 := Lib.hid q0; clear q0 q1 q2 hb1)
  go_quiet (fail)
  go_wp2_with fail
  go_ret
  refine ⟨rfl, ?_⟩
  first | exact HO1.out | exact HO1.out.alloc _ | exact (HO1.out.alloc _).drew | exact (HO1.out.alloc _).drewN _ | exact ((HO1.out.alloc _).drew).set (by have := HO1.out.size; omega) _ _ | exact ((HO1.out.alloc _).drewN _).set (by have := HO1.out.size; omega) _ _
set_option maxRecDepth 100000 in
set_option maxHeartbeats 4000000 in
theorem cka_10_r (a b f p r v : Int) (x : Nat) (w : World) (hc : chkE ⟨10, a, b, f, p, r, v⟩ = 0) (hx64 : x < 18446744073709551616) (hp : x / 256 ≤ 31) (hr : 31 < x % 256) :
    Calls Tryd.prog 9 #[.agg (ocells ⟨10, a, b, f, p, r, v⟩), .agg (acells ⟨0, false, (x : Int)⟩)] w fun o w' => o = .returned (.int .i64 (chkA ⟨10, a, b, f, p, r, v⟩ ⟨0, false, (x : Int)⟩)) ∧ Ow w w' := by
  have hEE : chkA ⟨10, a, b, f, p, r, v⟩ ⟨0, false, (x : Int)⟩ = 2 := by
     have e1 : (31 : Int) < (x : Int) / 256 ↔ 31 < x / 256 := by omega
     have e2 : (31 : Int) < (x : Int) % 256 ↔ 31 < x % 256 := by omega
     unfold chkA badA; simp only; rw [hc, if_neg (fun h => h rfl), if_neg (by omega)]; simp [e1, e2]; omega
  have HE := Lib.hid hEE
  clear hEE
  have HC := Lib.hid (fun W => check_any ⟨10, a, b, f, p, r, v⟩ 0 hc W)
  have HB : Hid (∀ W, Ow ((w.alloc (.cells (ocells ⟨10, a, b, f, p, r, v⟩) 24)).alloc (.cells (acells ⟨0, false, (x : Int)⟩) 27)) W → Ow w W ∧ Bx w.heap.size (ocells ⟨10, a, b, f, p, r, v⟩) 24 W ∧ Bx (w.heap.size + 1) (acells ⟨0, false, (x : Int)⟩) 27 W) := fun W h => ⟨Ow.then (((Ow.refl _).alloc _).alloc _) h, ((Bx.new w _ _).alloc _).then h, by simpa using (Bx.new (w.alloc (.cells (ocells ⟨10, a, b, f, p, r, v⟩) 24)) (acells ⟨0, false, (x : Int)⟩) 27).then h⟩
  rw [HE.out]
  obtain ⟨P, hP⟩ : ∃ P, x / 256 = P := ⟨_, rfl⟩
  obtain ⟨R, hR⟩ : ∃ R, x % 256 = R := ⟨_, rfl⟩
  rw [hP] at hp
  rw [hR] at hr
  have hP2 : (x : Int) / 256 = (P : Int) := by omega
  have hR2 : (x : Int) % 256 = (R : Int) := by omega
  have hp2 : (P : Int) ≤ 31 := by omega
  have hr2 : ¬ (R : Int) ≤ 31 := by omega
  clear hP hR
  have x0 : ((x : Int) == 0) = false := beq_eq_false_iff_ne.2 (by omega)
  clear hc
  unfold ocells at HC ⊢
  unfold acells
  go_enter Tryd.func9, Tryd.ntmps9
  go_wp2_with (go_at_call 17; refine (HC.out _).mono ?_; rintro e w1 ⟨rfl, hb1⟩; obtain ⟨q0, q1, q2⟩ := HB.out _ hb1; have r0 : w1.cell? ⟨w.heap.size, 0, none⟩ = some (.int .i64 10) := q1.at rfl; have a0 : w1.cell? ⟨w.heap.size + 1, 0, none⟩ = some (.int .i64 0) := q2.at rfl; have a1 : w1.cell? ⟨w.heap.size + 1, 1, none⟩ = some (.bool false) := q2.at rfl; have a2 : w1.cell? ⟨w.heap.size + 1, 2, none⟩ = some (.int .u64 (x : Int)) := q2.at rfl; have l1 := q1.lt; have l2 := q2.lt; have HO1 := Lib.hid q0; clear q0 q1 q2 hb1)
  go_quiet (fail)
  go_wp2_with fail
  go_ret
  refine ⟨rfl, ?_⟩
  first | exact HO1.out | exact HO1.out.alloc _ | exact (HO1.out.alloc _).drew | exact (HO1.out.alloc _).drewN _ | exact ((HO1.out.alloc _).drew).set (by have := HO1.out.size; omega) _ _ | exact ((HO1.out.alloc _).drewN _).set (by have := HO1.out.size; omega) _ _
set_option maxRecDepth 100000 in
set_option maxHeartbeats 4000000 in
theorem cka_10_rt (a b f p r v : Int) (x : Nat) (w : World) (hc : chkE ⟨10, a, b, f, p, r, v⟩ = 0) (hx64 : x < 18446744073709551616) (hp : x / 256 ≤ 31) (hr : 31 < x % 256) :
    Calls Tryd.prog 9 #[.agg (ocells ⟨10, a, b, f, p, r, v⟩), .agg (acells ⟨0, true, (x : Int)⟩)] w fun o w' => o = .returned (.int .i64 (chkA ⟨10, a, b, f, p, r, v⟩ ⟨0, true, (x : Int)⟩)) ∧ Ow w w' := by
  have hEE : chkA ⟨10, a, b, f, p, r, v⟩ ⟨0, true, (x : Int)⟩ = 2 := by
     have e1 : (31 : Int) < (x : Int) / 256 ↔ 31 < x / 256 := by omega
     have e2 : (31 : Int) < (x : Int) % 256 ↔ 31 < x % 256 := by omega
     unfold chkA badA; simp only; rw [hc, if_neg (fun h => h rfl), if_neg (by omega)]; simp [e1, e2]
  have HE := Lib.hid hEE
  clear hEE
  have HC := Lib.hid (fun W => check_any ⟨10, a, b, f, p, r, v⟩ 0 hc W)
  have HB : Hid (∀ W, Ow ((w.alloc (.cells (ocells ⟨10, a, b, f, p, r, v⟩) 24)).alloc (.cells (acells ⟨0, true, (x : Int)⟩) 27)) W → Ow w W ∧ Bx w.heap.size (ocells ⟨10, a, b, f, p, r, v⟩) 24 W ∧ Bx (w.heap.size + 1) (acells ⟨0, true, (x : Int)⟩) 27 W) := fun W h => ⟨Ow.then (((Ow.refl _).alloc _).alloc _) h, ((Bx.new w _ _).alloc _).then h, by simpa using (Bx.new (w.alloc (.cells (ocells ⟨10, a, b, f, p, r, v⟩) 24)) (acells ⟨0, true, (x : Int)⟩) 27).then h⟩
  rw [HE.out]
  obtain ⟨P, hP⟩ : ∃ P, x / 256 = P := ⟨_, rfl⟩
  obtain ⟨R, hR⟩ : ∃ R, x % 256 = R := ⟨_, rfl⟩
  rw [hP] at hp
  rw [hR] at hr
  have hP2 : (x : Int) / 256 = (P : Int) := by omega
  have hR2 : (x : Int) % 256 = (R : Int) := by omega
  have hp2 : (P : Int) ≤ 31 := by omega
  have hr2 : ¬ (R : Int) ≤ 31 := by omega
  clear hP hR
  clear hc
  unfold ocells at HC ⊢
  unfold acells
  go_enter Tryd.func9, Tryd.ntmps9
  go_wp2_with (go_at_call 17; refine (HC.out _).mono ?_; rintro e w1 ⟨rfl, hb1⟩; obtain ⟨q0, q1, q2⟩ := HB.out _ hb1; have r0 : w1.cell? ⟨w.heap.size, 0, none⟩ = some (.int .i64 10) := q1.at rfl; have a0 : w1.cell? ⟨w.heap.size + 1, 0, none⟩ = some (.int .i64 0) := q2.at rfl; have a1 : w1.cell? ⟨w.heap.size + 1, 1, none⟩ = some (.bool true) := q2.at rfl; have a2 : w1.cell? ⟨w.heap.size + 1, 2, none⟩ = some (.int .u64 (x : Int)) := q2.at rfl; have l1 := q1.lt; have l2 := q2.lt; have HO1 := Lib.hid q0; clear q0 q1 q2 hb1)
  go_quiet (fail)
  go_wp2_with fail
  go_ret
  refine ⟨rfl, ?_⟩
  first | exact HO1.out | exact HO1.out.alloc _ | exact (HO1.out.alloc _).drew | exact (HO1.out.alloc _).drewN _ | exact ((HO1.out.alloc _).drew).set (by have := HO1.out.size; omega) _ _ | exact ((HO1.out.alloc _).drewN _).set (by have := HO1.out.size; omega) _ _
set_option maxRecDepth 100000 in
set_option maxHeartbeats 4000000 in
theorem cka_o_t (k a b f p r v : Int) (x : Int) (w : World) (hc : chkE ⟨k, a, b, f, p, r, v⟩ = 0) (h8 : k ≠ 8) (h9 : k ≠ 9) (h4 : k ≠ 4) (h10 : k ≠ 10) :
    Calls Tryd.prog 9 #[.agg (ocells ⟨k, a, b, f, p, r, v⟩), .agg (acells ⟨0, true, x⟩)] w fun o w' => o = .returned (.int .i64 (chkA ⟨k, a, b, f, p, r, v⟩ ⟨0, true, x⟩)) ∧ Ow w w' := by
  have hEE : chkA ⟨k, a, b, f, p, r, v⟩ ⟨0, true, x⟩ = 2 := by unfold chkA badA; simp only; rw [hc, if_neg (fun h => h rfl), if_neg (by omega)]; simp [h8, h9, h4, h10]
  have HE := Lib.hid hEE
  clear hEE
  have HC := Lib.hid (fun W => check_any ⟨k, a, b, f, p, r, v⟩ 0 hc W)
  have HB : Hid (∀ W, Ow ((w.alloc (.cells (ocells ⟨k, a, b, f, p, r, v⟩) 24)).alloc (.cells (acells ⟨0, true, x⟩) 27)) W → Ow w W ∧ Bx w.heap.size (ocells ⟨k, a, b, f, p, r, v⟩) 24 W ∧ Bx (w.heap.size + 1) (acells ⟨0, true, x⟩) 27 W) := fun W h => ⟨Ow.then (((Ow.refl _).alloc _).alloc _) h, ((Bx.new w _ _).alloc _).then h, by simpa using (Bx.new (w.alloc (.cells (ocells ⟨k, a, b, f, p, r, v⟩) 24)) (acells ⟨0, true, x⟩) 27).then h⟩
  rw [HE.out]
  have n8 : (k == 8) = false := beq_eq_false_iff_ne.2 h8
  have n9 : (k == 9) = false := beq_eq_false_iff_ne.2 h9
  have n4 : (k == 4) = false := beq_eq_false_iff_ne.2 h4
  have n10 : (k == 10) = false := beq_eq_false_iff_ne.2 h10
  clear h8 h9 h4 h10
  clear hc
  unfold ocells at HC ⊢
  unfold acells
  go_enter Tryd.func9, Tryd.ntmps9
  go_wp2_with (go_at_call 17; refine (HC.out _).mono ?_; rintro e w1 ⟨rfl, hb1⟩; obtain ⟨q0, q1, q2⟩ := HB.out _ hb1; have r0 : w1.cell? ⟨w.heap.size, 0, none⟩ = some (.int .i64 k) := q1.at rfl; have a0 : w1.cell? ⟨w.heap.size + 1, 0, none⟩ = some (.int .i64 0) := q2.at rfl; have a1 : w1.cell? ⟨w.heap.size + 1, 1, none⟩ = some (.bool true) := q2.at rfl; have a2 : w1.cell? ⟨w.heap.size + 1, 2, none⟩ = some (.int .u64 x) := q2.at rfl; have l1 := q1.lt; have l2 := q2.lt; have HO1 := Lib.hid q0; clear q0 q1 q2 hb1)
  go_ret
  refine ⟨rfl, ?_⟩
  first | exact HO1.out | exact HO1.out.alloc _ | exact (HO1.out.alloc _).drew | exact (HO1.out.alloc _).drewN _ | exact ((HO1.out.alloc _).drew).set (by have := HO1.out.size; omega) _ _ | exact ((HO1.out.alloc _).drewN _).set (by have := HO1.out.size; omega) _ _
set_option maxRecDepth 100000 in
set_option maxHeartbeats 4000000 in
theorem cka_o_v (k a b f p r v : Int) (x : Int) (w : World) (hc : chkE ⟨k, a, b, f, p, r, v⟩ = 0) (h8 : k ≠ 8) (h9 : k ≠ 9) (h4 : k ≠ 4) (h10 : k ≠ 10) (hx : x ≠ 0) :
    Calls Tryd.prog 9 #[.agg (ocells ⟨k, a, b, f, p, r, v⟩), .agg (acells ⟨0, false, x⟩)] w fun o w' => o = .returned (.int .i64 (chkA ⟨k, a, b, f, p, r, v⟩ ⟨0, false, x⟩)) ∧ Ow w w' := by
  have hEE : chkA ⟨k, a, b, f, p, r, v⟩ ⟨0, false, x⟩ = 2 := by unfold chkA badA; simp only; rw [hc, if_neg (fun h => h rfl), if_neg (by omega)]; simp [h8, h9, h4, h10, hx]
  have HE := Lib.hid hEE
  clear hEE
  have HC := Lib.hid (fun W => check_any ⟨k, a, b, f, p, r, v⟩ 0 hc W)
  have HB : Hid (∀ W, Ow ((w.alloc (.cells (ocells ⟨k, a, b, f, p, r, v⟩) 24)).alloc (.cells (acells ⟨0, false, x⟩) 27)) W → Ow w W ∧ Bx w.heap.size (ocells ⟨k, a, b, f, p, r, v⟩) 24 W ∧ Bx (w.heap.size + 1) (acells ⟨0, false, x⟩) 27 W) := fun W h => ⟨Ow.then (((Ow.refl _).alloc _).alloc _) h, ((Bx.new w _ _).alloc _).then h, by simpa using (Bx.new (w.alloc (.cells (ocells ⟨k, a, b, f, p, r, v⟩) 24)) (acells ⟨0, false, x⟩) 27).then h⟩
  rw [HE.out]
  have n8 : (k == 8) = false := beq_eq_false_iff_ne.2 h8
  have n9 : (k == 9) = false := beq_eq_false_iff_ne.2 h9
  have n4 : (k == 4) = false := beq_eq_false_iff_ne.2 h4
  have n10 : (k == 10) = false := beq_eq_false_iff_ne.2 h10
  clear h8 h9 h4 h10
  have x0 : (x == 0) = false := beq_eq_false_iff_ne.2 hx
  clear hx
  clear hc
  unfold ocells at HC ⊢
  unfold acells
  go_enter Tryd.func9, Tryd.ntmps9
  go_wp2_with (go_at_call 17; refine (HC.out _).mono ?_; rintro e w1 ⟨rfl, hb1⟩; obtain ⟨q0, q1, q2⟩ := HB.out _ hb1; have r0 : w1.cell? ⟨w.heap.size, 0, none⟩ = some (.int .i64 k) := q1.at rfl; have a0 : w1.cell? ⟨w.heap.size + 1, 0, none⟩ = some (.int .i64 0) := q2.at rfl; have a1 : w1.cell? ⟨w.heap.size + 1, 1, none⟩ = some (.bool false) := q2.at rfl; have a2 : w1.cell? ⟨w.heap.size + 1, 2, none⟩ = some (.int .u64 x) := q2.at rfl; have l1 := q1.lt; have l2 := q2.lt; have HO1 := Lib.hid q0; clear q0 q1 q2 hb1)
  go_ret
  refine ⟨rfl, ?_⟩
  first | exact HO1.out | exact HO1.out.alloc _ | exact (HO1.out.alloc _).drew | exact (HO1.out.alloc _).drewN _ | exact ((HO1.out.alloc _).drew).set (by have := HO1.out.size; omega) _ _ | exact ((HO1.out.alloc _).drewN _).set (by have := HO1.out.size; omega) _ _
set_option maxRecDepth 100000 in
set_option maxHeartbeats 4000000 in
theorem cka_o_z (k a b f p r v : Int) (w : World) (hc : chkE ⟨k, a, b, f, p, r, v⟩ = 0) (h8 : k ≠ 8) (h9 : k ≠ 9) (h4 : k ≠ 4) (h10 : k ≠ 10) :
    Calls Tryd.prog 9 #[.agg (ocells ⟨k, a, b, f, p, r, v⟩), .agg (acells ⟨0, false, 0⟩)] w fun o w' => o = .returned (.int .i64 (chkA ⟨k, a, b, f, p, r, v⟩ ⟨0, false, 0⟩)) ∧ Ow w w' := by
  have hEE : chkA ⟨k, a, b, f, p, r, v⟩ ⟨0, false, 0⟩ = 0 := by unfold chkA badA; simp only; rw [hc, if_neg (fun h => h rfl), if_neg (by omega)]; simp [h8, h9, h4, h10]
  have HE := Lib.hid hEE
  clear hEE
  have HC := Lib.hid (fun W => check_any ⟨k, a, b, f, p, r, v⟩ 0 hc W)
  have HB : Hid (∀ W, Ow ((w.alloc (.cells (ocells ⟨k, a, b, f, p, r, v⟩) 24)).alloc (.cells (acells ⟨0, false, 0⟩) 27)) W → Ow w W ∧ Bx w.heap.size (ocells ⟨k, a, b, f, p, r, v⟩) 24 W ∧ Bx (w.heap.size + 1) (acells ⟨0, false, 0⟩) 27 W) := fun W h => ⟨Ow.then (((Ow.refl _).alloc _).alloc _) h, ((Bx.new w _ _).alloc _).then h, by simpa using (Bx.new (w.alloc (.cells (ocells ⟨k, a, b, f, p, r, v⟩) 24)) (acells ⟨0, false, 0⟩) 27).then h⟩
  rw [HE.out]
  have n8 : (k == 8) = false := beq_eq_false_iff_ne.2 h8
  have n9 : (k == 9) = false := beq_eq_false_iff_ne.2 h9
  have n4 : (k == 4) = false := beq_eq_false_iff_ne.2 h4
  have n10 : (k == 10) = false := beq_eq_false_iff_ne.2 h10
  clear h8 h9 h4 h10
  clear hc
  unfold ocells at HC ⊢
  unfold acells
  go_enter Tryd.func9, Tryd.ntmps9
  go_wp2_with (go_at_call 17; refine (HC.out _).mono ?_; rintro e w1 ⟨rfl, hb1⟩; obtain ⟨q0, q1, q2⟩ := HB.out _ hb1; have r0 : w1.cell? ⟨w.heap.size, 0, none⟩ = some (.int .i64 k) := q1.at rfl; have a0 : w1.cell? ⟨w.heap.size + 1, 0, none⟩ = some (.int .i64 0) := q2.at rfl; have a1 : w1.cell? ⟨w.heap.size + 1, 1, none⟩ = some (.bool false) := q2.at rfl; have a2 : w1.cell? ⟨w.heap.size + 1, 2, none⟩ = some (.int .u64 0) := q2.at rfl; have l1 := q1.lt; have l2 := q2.lt; have HO1 := Lib.hid q0; clear q0 q1 q2 hb1)
  go_ret
  refine ⟨rfl, ?_⟩
  first | exact HO1.out | exact HO1.out.alloc _ | exact (HO1.out.alloc _).drew | exact (HO1.out.alloc _).drewN _ | exact ((HO1.out.alloc _).drew).set (by have := HO1.out.size; omega) _ _ | exact ((HO1.out.alloc _).drewN _).set (by have := HO1.out.size; omega) _ _
theorem cka_any (c : OC) (x : OA) (hx : WfA x) (w : World) :
    Calls Tryd.prog 9 #[.agg (ocells c), .agg (acells x)] w fun o w' => o = .returned (.int .i64 (chkA c x)) ∧ Ow w w' := by
  obtain ⟨k, a, b, f, p, r, v⟩ := c
  by_cases hc : chkE ⟨k, a, b, f, p, r, v⟩ = 0
  · obtain ⟨e, i, y⟩ := x
    by_cases h1 : e < 0
    · exact cka_lo k a b f p r v e i y w hc h1
    · by_cases h2 : 999 < e
      · exact cka_hi k a b f p r v e i y w hc h2
      · by_cases he : e = 0
        · subst he
          by_cases h8 : k = 8
          · subst h8
            by_cases hy : y = 0
            · subst hy; exact cka_8_z _ _ _ _ _ _ _ w hc
            · exact cka_8_v _ _ _ _ _ _ _ _ w hc hy
          · by_cases h9 : k = 9
            · subst h9
              by_cases hy : y = 0
              · subst hy; exact cka_9_z _ _ _ _ _ _ _ w hc
              · exact cka_9_v _ _ _ _ _ _ _ _ w hc hy
            · by_cases h4 : k = 4
              · subst h4
                cases i
                · exact cka_4_f _ _ _ _ _ _ _ w hc
                · exact cka_4_t _ _ _ _ _ _ _ w hc
              · by_cases h10 : k = 10
                · subst h10
                  obtain ⟨n, rfl⟩ : ∃ n : Nat, y = n := ⟨y.toNat, by have := hx.1; simp only at this; omega⟩
                  have hn : n < 18446744073709551616 := by have := hx.2; simp only at this; omega
                  rcases Nat.lt_or_ge 31 (n / 256) with hp | hp
                  · cases i
                    · exact cka_10_p _ _ _ _ _ _ n w hc hn hp
                    · exact cka_10_pt _ _ _ _ _ _ n w hc hn hp
                  · rcases Nat.lt_or_ge 31 (n % 256) with hr | hr
                    · cases i
                      · exact cka_10_r _ _ _ _ _ _ n w hc hn hp hr
                      · exact cka_10_rt _ _ _ _ _ _ n w hc hn hp hr
                    · cases i
                      · exact cka_10_ok _ _ _ _ _ _ n w hc hn hp hr
                      · exact cka_10_is _ _ _ _ _ _ n w hc hn hp hr
                · cases i
                  · by_cases hy : y = 0
                    · subst hy; exact cka_o_z k a b f p r v w hc h8 h9 h4 h10
                    · exact cka_o_v k a b f p r v y w hc h8 h9 h4 h10 hy
                  · exact cka_o_t k a b f p r v y w hc h8 h9 h4 h10
        · cases i
          · by_cases hy : y = 0
            · subst hy; exact cka_e_z k a b f p r v e w hc (by omega) (by omega) he
            · exact cka_e_v k a b f p r v e y w hc (by omega) (by omega) he hy
          · exact cka_e_t k a b f p r v e y w hc (by omega) (by omega) he
  · exact cka_bad k a b f p r v x w hc
end Go.Proofs.YtaojogaakhidhaaDoor

/- Package ops: Answer. -/
import Derived.Test.YtaojogaakhidhaaDoorOpCkA
namespace Go.Proofs.YtaojogaakhidhaaDoor
open Go.RowKit
open Sc (OC OA chkE chkA badA WfA WfC ansT ansS hexL)
set_option maxRecDepth 100000 in
set_option maxHeartbeats 4000000 in
theorem ans_bad (k a b f p r v : Int) (e : Int) (i : Bool) (x : Int) (w : World) (hx : WfA ⟨e, i, x⟩) (hc : chkA ⟨k, a, b, f, p, r, v⟩ ⟨e, i, x⟩ ≠ 0) :
    Calls Tryd.prog 5 #[.agg (ocells ⟨k, a, b, f, p, r, v⟩), .agg (acells ⟨e, i, x⟩)] w fun o w' => o = .returned (.tuple #[.string ⟨#[]⟩, .int .i64 (chkA ⟨k, a, b, f, p, r, v⟩ ⟨e, i, x⟩)]) ∧ Ow w w' := by
  have HC := Lib.hid (fun W => cka_any ⟨k, a, b, f, p, r, v⟩ ⟨e, i, x⟩ hx W)
  have HB : Hid (∀ W, Ow ((w.alloc (.cells (ocells ⟨k, a, b, f, p, r, v⟩) 24)).alloc (.cells (acells ⟨e, i, x⟩) 27)) W → Ow w W ∧ Bx w.heap.size (ocells ⟨k, a, b, f, p, r, v⟩) 24 W ∧ Bx (w.heap.size + 1) (acells ⟨e, i, x⟩) 27 W) := fun W h => ⟨Ow.then (((Ow.refl _).alloc _).alloc _) h, ((Bx.new w _ _).alloc _).then h, by simpa using (Bx.new (w.alloc (.cells (ocells ⟨k, a, b, f, p, r, v⟩) 24)) (acells ⟨e, i, x⟩) 27).then h⟩
  obtain ⟨m, hm⟩ : ∃ m, chkA ⟨k, a, b, f, p, r, v⟩ ⟨e, i, x⟩ = m := ⟨_, rfl⟩
  rw [hm] at HC hc
  rw [hm]
  have hb : (m == 0) = false := beq_eq_false_iff_ne.2 hc
  clear hm hc
  unfold ocells acells at HC
  unfold ocells acells
  go_enter Tryd.func5, Tryd.ntmps5
  go_wp2_with (first
    | (go_at_call 9; refine (HC.out _).mono ?_; rintro e w1 ⟨rfl, hb1⟩; obtain ⟨q0, q1, q2⟩ := HB.out _ hb1; have r0 : w1.cell? ⟨w.heap.size, 0, none⟩ = some (.int .i64 k) := q1.at rfl; have a0 : w1.cell? ⟨w.heap.size + 1, 0, none⟩ = some (.int .i64 e) := q2.at rfl; have a1 : w1.cell? ⟨w.heap.size + 1, 1, none⟩ = some (.bool i) := q2.at rfl; have a2 : w1.cell? ⟨w.heap.size + 1, 2, none⟩ = some (.int .u64 x) := q2.at rfl; have l1 := q1.lt; have l2 := q2.lt; have HO1 := Lib.hid q0; clear q0 q1 q2 hb1))
  go_ret2
  exact ⟨rfl, HO1.out⟩
set_option maxRecDepth 100000 in
set_option maxHeartbeats 4000000 in
theorem ans_err (k a b f p r v : Int) (e : Int) (i : Bool) (x : Int) (w : World) (hx : WfA ⟨e, i, x⟩) (hc : chkA ⟨k, a, b, f, p, r, v⟩ ⟨e, i, x⟩ = 0) (he : e ≠ 0) (h1 : 0 ≤ e) (h9 : e ≤ 999) (u : ByteArray) (hu : u.data.toList = Lib.itoa e) (hg : Gl w) :
    Calls Tryd.prog 5 #[.agg (ocells ⟨k, a, b, f, p, r, v⟩), .agg (acells ⟨e, i, x⟩)] w fun o w' => o = .returned (.tuple #[.string (⟨#[101, 114, 114, 111, 114, 32]⟩ ++ u), .int .i64 0]) ∧ Ow w w' := by
  have HC := Lib.hid (fun W => cka_any ⟨k, a, b, f, p, r, v⟩ ⟨e, i, x⟩ hx W)
  have HB : Hid (∀ W, Ow ((w.alloc (.cells (ocells ⟨k, a, b, f, p, r, v⟩) 24)).alloc (.cells (acells ⟨e, i, x⟩) 27)) W → Ow w W ∧ Bx w.heap.size (ocells ⟨k, a, b, f, p, r, v⟩) 24 W ∧ Bx (w.heap.size + 1) (acells ⟨e, i, x⟩) 27 W) := fun W h => ⟨Ow.then (((Ow.refl _).alloc _).alloc _) h, ((Bx.new w _ _).alloc _).then h, by simpa using (Bx.new (w.alloc (.cells (ocells ⟨k, a, b, f, p, r, v⟩) 24)) (acells ⟨e, i, x⟩) 27).then h⟩
  rw [hc] at HC
  clear hc
  have e0 : (e == 0) = false := beq_eq_false_iff_ne.2 he
  have HG := Lib.hid hg
  have HEn : Hid (Ends e e) := ⟨by omega, by omega⟩
  have hus : u.size ≤ 11 := by rw [← ba_len, hu]; exact Sc.itoa_short (by simp only [Sc.inR, decide_eq_true_eq]; omega)
  have HU : Hid ((⟨(Lib.itoa e).toArray⟩ : ByteArray) = u) := (str_of hu).symm
  clear he h1 h9 hg hu
  unfold ocells acells at HC
  unfold ocells acells
  go_enter Tryd.func5, Tryd.ntmps5
  go_wp2_with (first
    | (go_at_call 9; refine (HC.out _).mono ?_; rintro e w1 ⟨rfl, hb1⟩; obtain ⟨q0, q1, q2⟩ := HB.out _ hb1; have r0 : w1.cell? ⟨w.heap.size, 0, none⟩ = some (.int .i64 k) := q1.at rfl; have a0 : w1.cell? ⟨w.heap.size + 1, 0, none⟩ = some (.int .i64 e) := q2.at rfl; have a1 : w1.cell? ⟨w.heap.size + 1, 1, none⟩ = some (.bool i) := q2.at rfl; have a2 : w1.cell? ⟨w.heap.size + 1, 2, none⟩ = some (.int .u64 x) := q2.at rfl; have l1 := q1.lt; have l2 := q2.lt; have HO1 := Lib.hid q0; clear q0 q1 q2 hb1)
    | (go_at_call 12; refine (itoa_any e _ (HG.out.below HO1.out) HEn.out).mono ?_; rw [HU.out]; rintro o w2 ⟨rfl, hb2⟩))
  go_ret2
  exact ⟨rfl, Ow.then HO1.out hb2⟩
set_option maxRecDepth 100000 in
set_option maxHeartbeats 4000000 in
theorem ans_yes (k a b f p r v : Int) (x : Int) (w : World) (hx : WfA ⟨0, true, x⟩) (hc : chkA ⟨k, a, b, f, p, r, v⟩ ⟨0, true, x⟩ = 0) :
    Calls Tryd.prog 5 #[.agg (ocells ⟨k, a, b, f, p, r, v⟩), .agg (acells ⟨0, true, x⟩)] w fun o w' => o = .returned (.tuple #[.string ⟨#[121, 101, 115]⟩, .int .i64 0]) ∧ Ow w w' := by
  have HC := Lib.hid (fun W => cka_any ⟨k, a, b, f, p, r, v⟩ ⟨0, true, x⟩ hx W)
  have HB : Hid (∀ W, Ow ((w.alloc (.cells (ocells ⟨k, a, b, f, p, r, v⟩) 24)).alloc (.cells (acells ⟨0, true, x⟩) 27)) W → Ow w W ∧ Bx w.heap.size (ocells ⟨k, a, b, f, p, r, v⟩) 24 W ∧ Bx (w.heap.size + 1) (acells ⟨0, true, x⟩) 27 W) := fun W h => ⟨Ow.then (((Ow.refl _).alloc _).alloc _) h, ((Bx.new w _ _).alloc _).then h, by simpa using (Bx.new (w.alloc (.cells (ocells ⟨k, a, b, f, p, r, v⟩) 24)) (acells ⟨0, true, x⟩) 27).then h⟩
  rw [hc] at HC
  clear hc
  unfold ocells acells at HC
  unfold ocells acells
  go_enter Tryd.func5, Tryd.ntmps5
  go_wp2_with (first
    | (go_at_call 9; refine (HC.out _).mono ?_; rintro e w1 ⟨rfl, hb1⟩; obtain ⟨q0, q1, q2⟩ := HB.out _ hb1; have r0 : w1.cell? ⟨w.heap.size, 0, none⟩ = some (.int .i64 k) := q1.at rfl; have a0 : w1.cell? ⟨w.heap.size + 1, 0, none⟩ = some (.int .i64 0) := q2.at rfl; have a1 : w1.cell? ⟨w.heap.size + 1, 1, none⟩ = some (.bool true) := q2.at rfl; have a2 : w1.cell? ⟨w.heap.size + 1, 2, none⟩ = some (.int .u64 x) := q2.at rfl; have l1 := q1.lt; have l2 := q2.lt; have HO1 := Lib.hid q0; clear q0 q1 q2 hb1))
  go_ret2
  exact ⟨rfl, HO1.out⟩
set_option maxRecDepth 100000 in
set_option maxHeartbeats 4000000 in
theorem ans_no8 (a b f p r v : Int) (x : Int) (w : World) (hx : WfA ⟨0, false, x⟩) (hc : chkA ⟨8, a, b, f, p, r, v⟩ ⟨0, false, x⟩ = 0) :
    Calls Tryd.prog 5 #[.agg (ocells ⟨8, a, b, f, p, r, v⟩), .agg (acells ⟨0, false, x⟩)] w fun o w' => o = .returned (.tuple #[.string ⟨#[110, 111]⟩, .int .i64 0]) ∧ Ow w w' := by
  have HC := Lib.hid (fun W => cka_any ⟨8, a, b, f, p, r, v⟩ ⟨0, false, x⟩ hx W)
  have HB : Hid (∀ W, Ow ((w.alloc (.cells (ocells ⟨8, a, b, f, p, r, v⟩) 24)).alloc (.cells (acells ⟨0, false, x⟩) 27)) W → Ow w W ∧ Bx w.heap.size (ocells ⟨8, a, b, f, p, r, v⟩) 24 W ∧ Bx (w.heap.size + 1) (acells ⟨0, false, x⟩) 27 W) := fun W h => ⟨Ow.then (((Ow.refl _).alloc _).alloc _) h, ((Bx.new w _ _).alloc _).then h, by simpa using (Bx.new (w.alloc (.cells (ocells ⟨8, a, b, f, p, r, v⟩) 24)) (acells ⟨0, false, x⟩) 27).then h⟩
  rw [hc] at HC
  clear hc
  unfold ocells acells at HC
  unfold ocells acells
  go_enter Tryd.func5, Tryd.ntmps5
  go_wp2_with (first
    | (go_at_call 9; refine (HC.out _).mono ?_; rintro e w1 ⟨rfl, hb1⟩; obtain ⟨q0, q1, q2⟩ := HB.out _ hb1; have r0 : w1.cell? ⟨w.heap.size, 0, none⟩ = some (.int .i64 8) := q1.at rfl; have a0 : w1.cell? ⟨w.heap.size + 1, 0, none⟩ = some (.int .i64 0) := q2.at rfl; have a1 : w1.cell? ⟨w.heap.size + 1, 1, none⟩ = some (.bool false) := q2.at rfl; have a2 : w1.cell? ⟨w.heap.size + 1, 2, none⟩ = some (.int .u64 x) := q2.at rfl; have l1 := q1.lt; have l2 := q2.lt; have HO1 := Lib.hid q0; clear q0 q1 q2 hb1))
  go_ret2
  exact ⟨rfl, HO1.out⟩
set_option maxRecDepth 100000 in
set_option maxHeartbeats 4000000 in
theorem ans_no9 (a b f p r v : Int) (x : Int) (w : World) (hx : WfA ⟨0, false, x⟩) (hc : chkA ⟨9, a, b, f, p, r, v⟩ ⟨0, false, x⟩ = 0) :
    Calls Tryd.prog 5 #[.agg (ocells ⟨9, a, b, f, p, r, v⟩), .agg (acells ⟨0, false, x⟩)] w fun o w' => o = .returned (.tuple #[.string ⟨#[110, 111]⟩, .int .i64 0]) ∧ Ow w w' := by
  have HC := Lib.hid (fun W => cka_any ⟨9, a, b, f, p, r, v⟩ ⟨0, false, x⟩ hx W)
  have HB : Hid (∀ W, Ow ((w.alloc (.cells (ocells ⟨9, a, b, f, p, r, v⟩) 24)).alloc (.cells (acells ⟨0, false, x⟩) 27)) W → Ow w W ∧ Bx w.heap.size (ocells ⟨9, a, b, f, p, r, v⟩) 24 W ∧ Bx (w.heap.size + 1) (acells ⟨0, false, x⟩) 27 W) := fun W h => ⟨Ow.then (((Ow.refl _).alloc _).alloc _) h, ((Bx.new w _ _).alloc _).then h, by simpa using (Bx.new (w.alloc (.cells (ocells ⟨9, a, b, f, p, r, v⟩) 24)) (acells ⟨0, false, x⟩) 27).then h⟩
  rw [hc] at HC
  clear hc
  unfold ocells acells at HC
  unfold ocells acells
  go_enter Tryd.func5, Tryd.ntmps5
  go_wp2_with (first
    | (go_at_call 9; refine (HC.out _).mono ?_; rintro e w1 ⟨rfl, hb1⟩; obtain ⟨q0, q1, q2⟩ := HB.out _ hb1; have r0 : w1.cell? ⟨w.heap.size, 0, none⟩ = some (.int .i64 9) := q1.at rfl; have a0 : w1.cell? ⟨w.heap.size + 1, 0, none⟩ = some (.int .i64 0) := q2.at rfl; have a1 : w1.cell? ⟨w.heap.size + 1, 1, none⟩ = some (.bool false) := q2.at rfl; have a2 : w1.cell? ⟨w.heap.size + 1, 2, none⟩ = some (.int .u64 x) := q2.at rfl; have l1 := q1.lt; have l2 := q2.lt; have HO1 := Lib.hid q0; clear q0 q1 q2 hb1))
  go_ret2
  exact ⟨rfl, HO1.out⟩
set_option maxRecDepth 100000 in
set_option maxHeartbeats 4000000 in
theorem ans_hex (a b f p r v : Int) (x : Nat) (w : World) (hx : WfA ⟨0, false, (x : Int)⟩) (hc : chkA ⟨4, a, b, f, p, r, v⟩ ⟨0, false, (x : Int)⟩ = 0) (u : ByteArray) (hu : u.data.toList = hexL x) (hx64 : x < 18446744073709551616) (hd : Db w) :
    Calls Tryd.prog 5 #[.agg (ocells ⟨4, a, b, f, p, r, v⟩), .agg (acells ⟨0, false, (x : Int)⟩)] w fun o w' => o = .returned (.tuple #[.string u, .int .i64 0]) ∧ Ow w w' := by
  have HC := Lib.hid (fun W => cka_any ⟨4, a, b, f, p, r, v⟩ ⟨0, false, (x : Int)⟩ hx W)
  have HB : Hid (∀ W, Ow ((w.alloc (.cells (ocells ⟨4, a, b, f, p, r, v⟩) 24)).alloc (.cells (acells ⟨0, false, (x : Int)⟩) 27)) W → Ow w W ∧ Bx w.heap.size (ocells ⟨4, a, b, f, p, r, v⟩) 24 W ∧ Bx (w.heap.size + 1) (acells ⟨0, false, (x : Int)⟩) 27 W) := fun W h => ⟨Ow.then (((Ow.refl _).alloc _).alloc _) h, ((Bx.new w _ _).alloc _).then h, by simpa using (Bx.new (w.alloc (.cells (ocells ⟨4, a, b, f, p, r, v⟩) 24)) (acells ⟨0, false, (x : Int)⟩) 27).then h⟩
  rw [hc] at HC
  clear hc
  have HD := Lib.hid hd
  have HU := Lib.hid hu
  clear hd hu
  unfold ocells acells at HC
  unfold ocells acells
  go_enter Tryd.func5, Tryd.ntmps5
  go_wp2_with (first
    | (go_at_call 9; refine (HC.out _).mono ?_; rintro e w1 ⟨rfl, hb1⟩; obtain ⟨q0, q1, q2⟩ := HB.out _ hb1; have r0 : w1.cell? ⟨w.heap.size, 0, none⟩ = some (.int .i64 4) := q1.at rfl; have a0 : w1.cell? ⟨w.heap.size + 1, 0, none⟩ = some (.int .i64 0) := q2.at rfl; have a1 : w1.cell? ⟨w.heap.size + 1, 1, none⟩ = some (.bool false) := q2.at rfl; have a2 : w1.cell? ⟨w.heap.size + 1, 2, none⟩ = some (.int .u64 (x : Int)) := q2.at rfl; have l1 := q1.lt; have l2 := q2.lt; have HO1 := Lib.hid q0; clear q0 q1 q2 hb1)
    | (go_at_call 13; refine (hex_w x hx64 u HU.out _ (HD.out.below HO1.out)).mono ?_; rintro o w2 ⟨rfl, hb2⟩))
  go_ret2
  exact ⟨rfl, Ow.then HO1.out hb2⟩
set_option maxRecDepth 100000 in
set_option maxHeartbeats 4000000 in
theorem ans_pair (a b f p r v : Int) (x P R : Nat) (w : World) (hx : WfA ⟨0, false, (x : Int)⟩) (hc : chkA ⟨10, a, b, f, p, r, v⟩ ⟨0, false, (x : Int)⟩ = 0) (u t : ByteArray) (hP : x / 256 = P) (hR : x % 256 = R) (hp : P ≤ 31) (hr : R ≤ 31) (hu : u.data.toList = Lib.decDigits P) (ht : t.data.toList = Lib.decDigits R) (hx64 : x < 18446744073709551616) :
    Calls Tryd.prog 5 #[.agg (ocells ⟨10, a, b, f, p, r, v⟩), .agg (acells ⟨0, false, (x : Int)⟩)] w fun o w' => o = .returned (.tuple #[.string (u ++ ⟨#[32]⟩ ++ t), .int .i64 0]) ∧ Ow w w' := by
  have HC := Lib.hid (fun W => cka_any ⟨10, a, b, f, p, r, v⟩ ⟨0, false, (x : Int)⟩ hx W)
  have HB : Hid (∀ W, Ow ((w.alloc (.cells (ocells ⟨10, a, b, f, p, r, v⟩) 24)).alloc (.cells (acells ⟨0, false, (x : Int)⟩) 27)) W → Ow w W ∧ Bx w.heap.size (ocells ⟨10, a, b, f, p, r, v⟩) 24 W ∧ Bx (w.heap.size + 1) (acells ⟨0, false, (x : Int)⟩) 27 W) := fun W h => ⟨Ow.then (((Ow.refl _).alloc _).alloc _) h, ((Bx.new w _ _).alloc _).then h, by simpa using (Bx.new (w.alloc (.cells (ocells ⟨10, a, b, f, p, r, v⟩) 24)) (acells ⟨0, false, (x : Int)⟩) 27).then h⟩
  rw [hc] at HC
  clear hc
  have hP2 : (x : Int) / 256 = (P : Int) := by omega
  have hR2 : (x : Int) % 256 = (R : Int) := by omega
  have hP3 : IntKind.u64.wrap ((x : Int).tdiv 256) = (P : Int) := by rw [Int.tdiv_eq_ediv_of_nonneg (by omega), hP2]; exact IntWalk.u64_in _ (by omega)
  have hR3 : (x : Int).tmod 256 = (R : Int) := by rw [Int.tmod_eq_emod_of_nonneg (by omega), hR2]
  have hus : u.size ≤ 2 := by rw [← ba_len, hu]; exact Sc.dec_long 1 P (by omega)
  have hts : t.size ≤ 2 := by rw [← ba_len, ht]; exact Sc.dec_long 1 R (by omega)
  have HU := Lib.hid (fun W => fu10 P (by omega) u hu W)
  have HT := Lib.hid (fun W => fu10 R (by omega) t ht W)
  clear hP hR hu ht
  unfold ocells acells at HC
  unfold ocells acells
  go_enter Tryd.func5, Tryd.ntmps5
  go_wp2_with (first
    | (go_at_call 9; refine (HC.out _).mono ?_; rintro e w1 ⟨rfl, hb1⟩; obtain ⟨q0, q1, q2⟩ := HB.out _ hb1; have r0 : w1.cell? ⟨w.heap.size, 0, none⟩ = some (.int .i64 10) := q1.at rfl; have a0 : w1.cell? ⟨w.heap.size + 1, 0, none⟩ = some (.int .i64 0) := q2.at rfl; have a1 : w1.cell? ⟨w.heap.size + 1, 1, none⟩ = some (.bool false) := q2.at rfl; have a2 : w1.cell? ⟨w.heap.size + 1, 2, none⟩ = some (.int .u64 (x : Int)) := q2.at rfl; have l1 := q1.lt; have l2 := q2.lt; have HO1 := Lib.hid q0; clear q0 q1 q2 hb1))
  go_quiet ((first
    | (go_at_call 14; exact Calls.quiet_of_same ((HU.out _).mono fun _ _ ⟨h1, h2⟩ => ⟨h1, h2.symm⟩))
    | (go_at_call 14; exact Calls.quiet_of_same ((HT.out _).mono fun _ _ ⟨h1, h2⟩ => ⟨h1, h2.symm⟩))))
  go_wp2_with fail
  go_ret2
  exact ⟨rfl, by first | exact HO1.out.drewN _ | exact HO1.out⟩
set_option maxRecDepth 100000 in
set_option maxHeartbeats 4000000 in
theorem ans_okk (k a b f p r v : Int) (x : Int) (w : World) (hx : WfA ⟨0, false, x⟩) (hc : chkA ⟨k, a, b, f, p, r, v⟩ ⟨0, false, x⟩ = 0) (h8 : k ≠ 8) (h9 : k ≠ 9) (h4 : k ≠ 4) (h10 : k ≠ 10) :
    Calls Tryd.prog 5 #[.agg (ocells ⟨k, a, b, f, p, r, v⟩), .agg (acells ⟨0, false, x⟩)] w fun o w' => o = .returned (.tuple #[.string ⟨#[111, 107]⟩, .int .i64 0]) ∧ Ow w w' := by
  have HC := Lib.hid (fun W => cka_any ⟨k, a, b, f, p, r, v⟩ ⟨0, false, x⟩ hx W)
  have HB : Hid (∀ W, Ow ((w.alloc (.cells (ocells ⟨k, a, b, f, p, r, v⟩) 24)).alloc (.cells (acells ⟨0, false, x⟩) 27)) W → Ow w W ∧ Bx w.heap.size (ocells ⟨k, a, b, f, p, r, v⟩) 24 W ∧ Bx (w.heap.size + 1) (acells ⟨0, false, x⟩) 27 W) := fun W h => ⟨Ow.then (((Ow.refl _).alloc _).alloc _) h, ((Bx.new w _ _).alloc _).then h, by simpa using (Bx.new (w.alloc (.cells (ocells ⟨k, a, b, f, p, r, v⟩) 24)) (acells ⟨0, false, x⟩) 27).then h⟩
  rw [hc] at HC
  clear hc
  have n8 : (k == 8) = false := beq_eq_false_iff_ne.2 h8
  have n9 : (k == 9) = false := beq_eq_false_iff_ne.2 h9
  have n4 : (k == 4) = false := beq_eq_false_iff_ne.2 h4
  have n10 : (k == 10) = false := beq_eq_false_iff_ne.2 h10
  clear h8 h9 h4 h10
  unfold ocells acells at HC
  unfold ocells acells
  go_enter Tryd.func5, Tryd.ntmps5
  go_wp2_with (first
    | (go_at_call 9; refine (HC.out _).mono ?_; rintro e w1 ⟨rfl, hb1⟩; obtain ⟨q0, q1, q2⟩ := HB.out _ hb1; have r0 : w1.cell? ⟨w.heap.size, 0, none⟩ = some (.int .i64 k) := q1.at rfl; have a0 : w1.cell? ⟨w.heap.size + 1, 0, none⟩ = some (.int .i64 0) := q2.at rfl; have a1 : w1.cell? ⟨w.heap.size + 1, 1, none⟩ = some (.bool false) := q2.at rfl; have a2 : w1.cell? ⟨w.heap.size + 1, 2, none⟩ = some (.int .u64 x) := q2.at rfl; have l1 := q1.lt; have l2 := q2.lt; have HO1 := Lib.hid q0; clear q0 q1 q2 hb1))
  go_ret2
  exact ⟨rfl, HO1.out⟩
/-- What Answer returns. -/
theorem ans_any (c : OC) (x : OA) (u : ByteArray) (m : Int) (hu : u.data.toList = ansS c x) (hm : chkA c x = m) (hx : WfA x) (w : World) (hg : Gl w) (hd : Db w) :
    Calls Tryd.prog 5 #[.agg (ocells c), .agg (acells x)] w fun o w' => o = .returned (.tuple #[.string u, .int .i64 m]) ∧ Ow w w' := by
  rw [str_of hu]
  subst hm
  obtain ⟨k, a, b, f, p, r, v⟩ := c
  obtain ⟨e, i, y⟩ := x
  unfold ansS
  by_cases hc : chkA ⟨k, a, b, f, p, r, v⟩ ⟨e, i, y⟩ = 0
  · rw [if_pos hc, hc]
    obtain ⟨g1, g2, g3, g4⟩ := Sc.chkA_parts hc
    obtain ⟨b1, b2, b3⟩ := Sc.badA_parts g4
    simp only at g2 g3 b1 b2 b3
    by_cases he : e = 0
    · subst he
      cases i with
      | true =>
        have hk := (b1 rfl).2
        rw [Sc.ansT_8 hk, if_pos rfl]
        exact ans_yes k a b f p r v y w hx hc
      | false =>
        by_cases h8 : k = 8
        · subst h8
          rw [Sc.ansT_8 (.inl rfl), if_neg (by decide)]
          exact ans_no8 _ _ _ _ _ _ _ w hx hc
        · by_cases h9 : k = 9
          · subst h9
            rw [Sc.ansT_8 (.inr rfl), if_neg (by decide)]
            exact ans_no9 _ _ _ _ _ _ _ w hx hc
          · obtain ⟨n, rfl⟩ : ∃ n : Nat, y = n := ⟨y.toNat, by have := hx.1; simp only at this; omega⟩
            have hn : n < 18446744073709551616 := by have := hx.2; simp only at this; omega
            by_cases h4 : k = 4
            · subst h4
              rw [Sc.ansT_4 rfl, Int.toNat_natCast]
              exact ans_hex _ _ _ _ _ _ n w hx hc _ rfl hn hd
            · by_cases h10 : k = 10
              · subst h10
                rw [Sc.ansT_10 rfl]
                have hb := b3 rfl
                have e1 : (n : Int) / 256 = ((n / 256 : Nat) : Int) := by omega
                have e2 : (n : Int) % 256 = ((n % 256 : Nat) : Int) := by omega
                rw [e1, e2, Sc.itoa_plus (by omega), Sc.itoa_plus (by omega), Int.toNat_natCast, Int.toNat_natCast]
                have := ans_pair a b f p r v n (n / 256) (n % 256) w hx hc ⟨(Lib.decDigits (n / 256)).toArray⟩ ⟨(Lib.decDigits (n % 256)).toArray⟩ rfl rfl (by omega) (by omega) rfl rfl hn
                refine this.mono fun o w' ⟨h1, h2⟩ => ⟨?_, h2⟩
                rw [h1, str_of (u := ⟨(Lib.decDigits (n / 256)).toArray⟩ ++ ⟨#[32]⟩ ++ ⟨(Lib.decDigits (n % 256)).toArray⟩) (l := Lib.decDigits (n / 256) ++ 32 :: Lib.decDigits (n % 256)) (by simp)]
              · rw [Sc.ansT_ok (by simp only; omega) h4 h10]
                exact ans_okk _ _ _ _ _ _ _ _ w hx hc h8 h9 h4 h10
    · rw [Sc.ansT_e he]
      have := ans_err k a b f p r v e i y w hx hc he g2 g3 ⟨(Lib.itoa e).toArray⟩ rfl hg
      refine this.mono fun o w' ⟨h1, h2⟩ => ⟨?_, h2⟩
      rw [h1, str_of (u := ⟨#[101, 114, 114, 111, 114, 32]⟩ ++ ⟨(Lib.itoa e).toArray⟩) (l := Sc.errT ++ Lib.itoa e) (by simp [Sc.errT])]
  · rw [if_neg hc]
    exact ans_bad _ _ _ _ _ _ _ _ _ _ w hx hc
end Go.Proofs.YtaojogaakhidhaaDoor

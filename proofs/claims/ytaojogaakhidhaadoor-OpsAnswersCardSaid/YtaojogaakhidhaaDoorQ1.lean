/- Package ops: number. Package ops: the closure of Check. -/
import Derived.Test.YtaojogaakhidhaaDoorOpTab
import Derived.Test.YtaojogaakhidhaaDoorOpArg
namespace Go.Proofs.YtaojogaakhidhaaDoor
open Go.RowKit
def numCells (b : Nat) : Array Value := #[.pointer none, .pointer (some ⟨b, 1, none⟩), .pointer (some ⟨b, 2, none⟩), .pointer (some ⟨b, 3, none⟩), .pointer (some ⟨b, 4, none⟩), .pointer (some ⟨b, 5, none⟩)]
theorem idx_num (b k : Nat) (h1 : 1 ≤ k) (h5 : k ≤ 5) (W : World) : (Instr.index 91 (.agg (numCells b)) (.int .i64 k)).run Tryd.prog W = .ok (.pointer (some ⟨b, k, none⟩)) W := by
  obtain rfl | rfl | rfl | rfl | rfl : k = 1 ∨ k = 2 ∨ k = 3 ∨ k = 4 ∨ k = 5 := by omega
  all_goals kernel_rfl
theorem idx_tab (g : Nat → Nat) (k : Nat) (h1 : 1 ≤ k) (h5 : k ≤ 11) (W : World) : (Instr.index 57 (.agg (tabCells g)) (.int .i64 k)).run Tryd.prog W = .ok (.agg #[(tabCells g).getD (2 * k) undef, (tabCells g).getD (2 * k + 1) undef]) W := by
  obtain rfl | rfl | rfl | rfl | rfl | rfl | rfl | rfl | rfl | rfl | rfl : k = 1 ∨ k = 2 ∨ k = 3 ∨ k = 4 ∨ k = 5 ∨ k = 6 ∨ k = 7 ∨ k = 8 ∨ k = 9 ∨ k = 10 ∨ k = 11 := by omega
  all_goals kernel_rfl
set_option maxRecDepth 100000 in
set_option maxHeartbeats 4000000 in
theorem number_any (b k : Nat) (h1 : 1 ≤ k) (h5 : k ≤ 5) (w : World) :
    Calls Tryd.prog 30 #[.pointer (some ⟨b, 0, none⟩), .int .i64 k] w fun e w' => e = .returned (.pointer (some ⟨b, k, none⟩)) ∧ Ow w w' := by
  have HI := fun W => idx_num b k h1 h5 W
  unfold numCells at HI
  clear h1 h5
  go_enter Tryd.func30, Tryd.ntmps30
  go_wp2_with (go_region_with fail)
  go_ret
  exact ⟨rfl, (Ow.refl _).drew⟩
end Go.Proofs.YtaojogaakhidhaaDoor
namespace Go.Proofs.YtaojogaakhidhaaDoor
open Go.RowKit
open Sc (OC OA num setN inR)

theorem ocells_num (c : OC) (k : Nat) (h1 : 1 ≤ k) (h5 : k ≤ 5) : (ocells c)[k]? = some (.int .i64 (num c k)) := by
  obtain rfl | rfl | rfl | rfl | rfl : k = 1 ∨ k = 2 ∨ k = 3 ∨ k = 4 ∨ k = 5 := by omega
  all_goals rfl
theorem ocells_set (c : OC) (k : Nat) (h1 : 1 ≤ k) (h5 : k ≤ 5) : (ocells c).setIfInBounds k (.int .i64 0) = ocells (setN c k 0) := by
  obtain rfl | rfl | rfl | rfl | rfl : k = 1 ∨ k = 2 ∨ k = 3 ∨ k = 4 ∨ k = 5 := by omega
  all_goals rfl
/-- What the closure leaves. -/
def TakeP (w0 w : World) (bp ep : Nat) (c : OC) (x : Int) (e : Ending) (w' : World) : Prop :=
  (∃ v, e = .returned v) ∧ Ow w0 w' ∧ Bx bp (ocells c) 24 w' ∧ Bx ep #[.int .i64 x] 25 w' ∧ ∀ b cs T, b ≠ bp → b ≠ ep → Bx b cs T w → Bx b cs T w'
set_option maxRecDepth 100000 in
set_option maxHeartbeats 4000000 in
theorem take_six (w0 w : World) (bp ep : Nat) (c : OC) (x : Int) (h0 : Ow w0 w) (hb0 : w0.heap.size ≤ bp) (hb : Bx bp (ocells c) 24 w) (he : Bx ep #[.int .i64 x] 25 w) (hne : ep ≠ bp) :
    Calls Tryd.prog 29 #[.int .i64 6, .pointer (some ⟨bp, 0, none⟩), .pointer (some ⟨ep, 0, none⟩)] w (TakeP w0 w bp ep (setN c 6 0) x) := by
  have c6 : w.cell? ⟨bp, 6, none⟩ = some (.int .u64 c.v) := hb.at rfl
  have z6 := hb.z 6
  have HF : Hid (TakeP w0 w bp ep (setN c 6 0) x (.returned (.tuple #[])) (w.setCell ⟨bp, 6, none⟩ (.int .u64 0))) :=
    ⟨⟨_, rfl⟩, h0.set hb0 _ _, hb.set 6 _, he.other hne _ _, fun _ _ _ h1 _ h => h.other h1 _ _⟩
  clear h0 hb he
  go_enter Tryd.func29, Tryd.ntmps29
  go_wp2_with fail
  refine bodyPost_ret (results_none rfl _ _ _) rfl ?_
  exact HF.out
set_option maxRecDepth 100000 in
set_option maxHeartbeats 4000000 in
theorem take_num (w0 w : World) (bp ep k : Nat) (h1 : 1 ≤ k) (h5 : k ≤ 5) (c : OC) (x : Int) (h0 : Ow w0 w) (hb0 : w0.heap.size ≤ bp) (he0 : w0.heap.size ≤ ep) (hb : Bx bp (ocells c) 24 w) (he : Bx ep #[.int .i64 x] 25 w) (hne : ep ≠ bp) :
    Calls Tryd.prog 29 #[.int .i64 k, .pointer (some ⟨bp, 0, none⟩), .pointer (some ⟨ep, 0, none⟩)] w (TakeP w0 w bp ep (setN c k 0) (if inR (num c k) then x else 7)) := by
  have HN := Lib.hid (fun W => number_any bp k h1 h5 W)
  have hk6 : ¬ (k : Int) = 6 := by omega
  obtain ⟨n, hn⟩ : ∃ n : Int, num c k = n := ⟨_, rfl⟩
  have hcell := ocells_num c k h1 h5
  have hset := ocells_set c k h1 h5
  rw [hn] at hcell
  rw [hn]
  have HH := Lib.hid (And.intro h0 (And.intro hb (And.intro he (And.intro hcell hset))))
  clear h0 hb he hcell hset h1 h5
  by_cases hl : n < -1000000000
  · have hr : inR n = false := by simp [inR]; omega
    rw [hr]
    go_enter Tryd.func29, Tryd.ntmps29
    go_wp2_with (go_at_call 30; refine (HN.out _).mono ?_; rintro e w1 ⟨rfl, hb1⟩; obtain ⟨q0, q1, q2, q3, q4⟩ := HH.out; have r1 : w1.cell? ⟨bp, k, none⟩ = some (.int .i64 n) := (q1.then hb1).at q3; have r2 := (q1.then hb1).z k; have r3 := (q2.then hb1).at (i := 0) rfl; have r4 := (q2.then hb1).z 0; clear q0 q1 q2 q3 q4)
    obtain ⟨h0, hb, he, hcell, hset⟩ := HH.out
    refine bodyPost_end (results_none rfl _ _ _) rfl ⟨⟨_, rfl⟩, (((h0.then hb1).set he0 _ _).set hb0 _ _), ?_, ?_, fun _ _ _ h1 h2 h => (((h.then hb1).other h2 _ _).other h1 _ _)⟩
    · rw [← hset]; exact ((hb.then hb1).other (Ne.symm hne) _ _).set k _
    · exact ((he.then hb1).set 0 _).other hne _ _
  · by_cases hg : 1000000000 < n
    · have hr : inR n = false := by simp [inR]; omega
      rw [hr]
      go_enter Tryd.func29, Tryd.ntmps29
      go_wp2_with (go_at_call 30; refine (HN.out _).mono ?_; rintro e w1 ⟨rfl, hb1⟩; obtain ⟨q0, q1, q2, q3, q4⟩ := HH.out; have r1 : w1.cell? ⟨bp, k, none⟩ = some (.int .i64 n) := (q1.then hb1).at q3; have r2 := (q1.then hb1).z k; have r3 := (q2.then hb1).at (i := 0) rfl; have r4 := (q2.then hb1).z 0; clear q0 q1 q2 q3 q4)
      obtain ⟨h0, hb, he, hcell, hset⟩ := HH.out
      refine bodyPost_end (results_none rfl _ _ _) rfl ⟨⟨_, rfl⟩, (((h0.then hb1).set he0 _ _).set hb0 _ _), ?_, ?_, fun _ _ _ h1 h2 h => (((h.then hb1).other h2 _ _).other h1 _ _)⟩
      · rw [← hset]; exact ((hb.then hb1).other (Ne.symm hne) _ _).set k _
      · exact ((he.then hb1).set 0 _).other hne _ _
    · have hr : inR n = true := by simp [inR]; omega
      rw [hr]
      go_enter Tryd.func29, Tryd.ntmps29
      go_wp2_with (go_at_call 30; refine (HN.out _).mono ?_; rintro e w1 ⟨rfl, hb1⟩; obtain ⟨q0, q1, q2, q3, q4⟩ := HH.out; have r1 : w1.cell? ⟨bp, k, none⟩ = some (.int .i64 n) := (q1.then hb1).at q3; have r2 := (q1.then hb1).z k; have r3 := (q2.then hb1).at (i := 0) rfl; have r4 := (q2.then hb1).z 0; clear q0 q1 q2 q3 q4)
      obtain ⟨h0, hb, he, hcell, hset⟩ := HH.out
      refine bodyPost_end (results_none rfl _ _ _) rfl ⟨⟨_, rfl⟩, ((h0.then hb1).set hb0 _ _), ?_, ?_, fun _ _ _ h1 _ h => ((h.then hb1).other h1 _ _)⟩
      · rw [← hset]; exact (hb.then hb1).set k _
      · exact (he.then hb1).other hne _ _
end Go.Proofs.YtaojogaakhidhaaDoor

/- Package ops: number. Package ops: the closure of Check. Check in plain Lean: the fields taken one after the other. Package ops: a row of the table. -/
import Derived.Test.YtaojogaakhidhaaGreatDoorOpTab
import Derived.Test.YtaojogaakhidhaaGreatDoorQ2
import Derived.Test.YtaojogaakhidhaaGreatDoorOpPl
namespace Go.Proofs.YtaojogaakhidhaaGreatDoor
open Go.RowKit
def numCells (b : Nat) : Array Value := #[.pointer none, .pointer (some ⟨b, 1, none⟩), .pointer (some ⟨b, 2, none⟩), .pointer (some ⟨b, 3, none⟩), .pointer (some ⟨b, 4, none⟩), .pointer (some ⟨b, 5, none⟩)]
theorem idx_num (b k : Nat) (h1 : 1 ≤ k) (h5 : k ≤ 5) (W : World) : (Instr.index 107 (.agg (numCells b)) (.int .i64 k)).run Tryz.prog W = .ok (.pointer (some ⟨b, k, none⟩)) W := by
  obtain rfl | rfl | rfl | rfl | rfl : k = 1 ∨ k = 2 ∨ k = 3 ∨ k = 4 ∨ k = 5 := by omega
  all_goals kernel_rfl
theorem idx_tab (g : Nat → Nat) (k : Nat) (h1 : 1 ≤ k) (h5 : k ≤ 11) (W : World) : (Instr.index 50 (.agg (tabCells g)) (.int .i64 k)).run Tryz.prog W = .ok (.agg #[(tabCells g).getD (2 * k) undef, (tabCells g).getD (2 * k + 1) undef]) W := by
  obtain rfl | rfl | rfl | rfl | rfl | rfl | rfl | rfl | rfl | rfl | rfl : k = 1 ∨ k = 2 ∨ k = 3 ∨ k = 4 ∨ k = 5 ∨ k = 6 ∨ k = 7 ∨ k = 8 ∨ k = 9 ∨ k = 10 ∨ k = 11 := by omega
  all_goals kernel_rfl
set_option maxRecDepth 100000 in
set_option maxHeartbeats 4000000 in
theorem number_any (b k : Nat) (h1 : 1 ≤ k) (h5 : k ≤ 5) (w : World) :
    Calls Tryz.prog 38 #[.pointer (some ⟨b, 0, none⟩), .int .i64 k] w fun e w' => e = .returned (.pointer (some ⟨b, k, none⟩)) ∧ Ow w w' := by
  have HI := fun W => idx_num b k h1 h5 W
  unfold numCells at HI
  clear h1 h5
  go_enter Tryz.func38, Tryz.ntmps38
  go_wp2_with (go_region_with fail)
  go_ret
  exact ⟨rfl, (Ow.refl _).drew⟩
end Go.Proofs.YtaojogaakhidhaaGreatDoor
namespace Go.Proofs.YtaojogaakhidhaaGreatDoor
open Go.RowKit
open Sc (OC OA num setN inR)

theorem ocells_num (c : OC) (k : Nat) (h1 : 1 ≤ k) (h5 : k ≤ 5) : (ocells c)[k]? = some (.int .i64 (num c k)) := by
  obtain rfl | rfl | rfl | rfl | rfl : k = 1 ∨ k = 2 ∨ k = 3 ∨ k = 4 ∨ k = 5 := by omega
  all_goals rfl
theorem ocells_set (c : OC) (k : Nat) (h1 : 1 ≤ k) (h5 : k ≤ 5) : (ocells c).setIfInBounds k (.int .i64 0) = ocells (setN c k 0) := by
  obtain rfl | rfl | rfl | rfl | rfl : k = 1 ∨ k = 2 ∨ k = 3 ∨ k = 4 ∨ k = 5 := by omega
  all_goals rfl
/-- What the closure leaves. -/
def TakeP (w0 w : World) (bp ep : Nat) (c : OC) (x : Int) (e : Ending) (w' : World) : Prop :=
  (∃ v, e = .returned v) ∧ Ow w0 w' ∧ Bx bp (ocells c) 25 w' ∧ Bx ep #[.int .i64 x] 26 w' ∧ ∀ b cs T, b ≠ bp → b ≠ ep → Bx b cs T w → Bx b cs T w'
set_option maxRecDepth 100000 in
set_option maxHeartbeats 4000000 in
theorem take_six (w0 w : World) (bp ep : Nat) (c : OC) (x : Int) (h0 : Ow w0 w) (hb0 : w0.heap.size ≤ bp) (hb : Bx bp (ocells c) 25 w) (he : Bx ep #[.int .i64 x] 26 w) (hne : ep ≠ bp) :
    Calls Tryz.prog 53 #[.int .i64 6, .pointer (some ⟨bp, 0, none⟩), .pointer (some ⟨ep, 0, none⟩)] w (TakeP w0 w bp ep (setN c 6 0) x) := by
  have c6 : w.cell? ⟨bp, 6, none⟩ = some (.int .u64 c.v) := hb.at rfl
  have z6 := hb.z 6
  have HF : Hid (TakeP w0 w bp ep (setN c 6 0) x (.returned (.tuple #[])) (w.setCell ⟨bp, 6, none⟩ (.int .u64 0))) :=
    ⟨⟨_, rfl⟩, h0.set hb0 _ _, hb.set 6 _, he.other hne _ _, fun _ _ _ h1 _ h => h.other h1 _ _⟩
  clear h0 hb he
  go_enter Tryz.func53, Tryz.ntmps53
  go_wp2_with fail
  refine bodyPost_ret (results_none rfl _ _ _) rfl ?_
  exact HF.out
set_option maxRecDepth 100000 in
set_option maxHeartbeats 4000000 in
theorem take_num (w0 w : World) (bp ep k : Nat) (h1 : 1 ≤ k) (h5 : k ≤ 5) (c : OC) (x : Int) (h0 : Ow w0 w) (hb0 : w0.heap.size ≤ bp) (he0 : w0.heap.size ≤ ep) (hb : Bx bp (ocells c) 25 w) (he : Bx ep #[.int .i64 x] 26 w) (hne : ep ≠ bp) :
    Calls Tryz.prog 53 #[.int .i64 k, .pointer (some ⟨bp, 0, none⟩), .pointer (some ⟨ep, 0, none⟩)] w (TakeP w0 w bp ep (setN c k 0) (if inR (num c k) then x else 7)) := by
  have HN := Lib.hid (fun W => number_any bp k h1 h5 W)
  have hk6 : ¬ (k : Int) = 6 := by omega
  obtain ⟨n, hn⟩ : ∃ n : Int, num c k = n := ⟨_, rfl⟩
  have hcell := ocells_num c k h1 h5
  have hset := ocells_set c k h1 h5
  rw [hn] at hcell
  rw [hn]
  have HH := Lib.hid (And.intro h0 (And.intro hb (And.intro he (And.intro hcell hset))))
  clear h0 hb he hcell hset h1 h5
  by_cases hl : n < -1000000000
  · have hr : inR n = false := by simp [inR]; omega
    rw [hr]
    go_enter Tryz.func53, Tryz.ntmps53
    go_wp2_with (go_at_call 38; refine (HN.out _).mono ?_; rintro e w1 ⟨rfl, hb1⟩; obtain ⟨q0, q1, q2, q3, q4⟩ := HH.out; have r1 : w1.cell? ⟨bp, k, none⟩ = some (.int .i64 n) := (q1.then hb1).at q3; have r2 := (q1.then hb1).z k; have r3 := (q2.then hb1).at (i := 0) rfl; have r4 := (q2.then hb1).z 0; clear q0 q1 q2 q3 q4)
    obtain ⟨h0, hb, he, hcell, hset⟩ := HH.out
    refine bodyPost_end (results_none rfl _ _ _) rfl ⟨⟨_, rfl⟩, (((h0.then hb1).set he0 _ _).set hb0 _ _), ?_, ?_, fun _ _ _ h1 h2 h => (((h.then hb1).other h2 _ _).other h1 _ _)⟩
    · rw [← hset]; exact ((hb.then hb1).other (Ne.symm hne) _ _).set k _
    · exact ((he.then hb1).set 0 _).other hne _ _
  · by_cases hg : 1000000000 < n
    · have hr : inR n = false := by simp [inR]; omega
      rw [hr]
      go_enter Tryz.func53, Tryz.ntmps53
      go_wp2_with (go_at_call 38; refine (HN.out _).mono ?_; rintro e w1 ⟨rfl, hb1⟩; obtain ⟨q0, q1, q2, q3, q4⟩ := HH.out; have r1 : w1.cell? ⟨bp, k, none⟩ = some (.int .i64 n) := (q1.then hb1).at q3; have r2 := (q1.then hb1).z k; have r3 := (q2.then hb1).at (i := 0) rfl; have r4 := (q2.then hb1).z 0; clear q0 q1 q2 q3 q4)
      obtain ⟨h0, hb, he, hcell, hset⟩ := HH.out
      refine bodyPost_end (results_none rfl _ _ _) rfl ⟨⟨_, rfl⟩, (((h0.then hb1).set he0 _ _).set hb0 _ _), ?_, ?_, fun _ _ _ h1 h2 h => (((h.then hb1).other h2 _ _).other h1 _ _)⟩
      · rw [← hset]; exact ((hb.then hb1).other (Ne.symm hne) _ _).set k _
      · exact ((he.then hb1).set 0 _).other hne _ _
    · have hr : inR n = true := by simp [inR]; omega
      rw [hr]
      go_enter Tryz.func53, Tryz.ntmps53
      go_wp2_with (go_at_call 38; refine (HN.out _).mono ?_; rintro e w1 ⟨rfl, hb1⟩; obtain ⟨q0, q1, q2, q3, q4⟩ := HH.out; have r1 : w1.cell? ⟨bp, k, none⟩ = some (.int .i64 n) := (q1.then hb1).at q3; have r2 := (q1.then hb1).z k; have r3 := (q2.then hb1).at (i := 0) rfl; have r4 := (q2.then hb1).z 0; clear q0 q1 q2 q3 q4)
      obtain ⟨h0, hb, he, hcell, hset⟩ := HH.out
      refine bodyPost_end (results_none rfl _ _ _) rfl ⟨⟨_, rfl⟩, ((h0.then hb1).set hb0 _ _), ?_, ?_, fun _ _ _ h1 _ h => ((h.then hb1).other h1 _ _)⟩
      · rw [← hset]; exact (hb.then hb1).set k _
      · exact (he.then hb1).other hne _ _
end Go.Proofs.YtaojogaakhidhaaGreatDoor
namespace Go.Proofs.YtaojogaakhidhaaGreatDoor
namespace Sc
/-- The operation with its kind and the first fields of a list taken out. -/
def bareF (c : OC) (l : List Nat) : OC := l.foldl (fun c i => setN c i 0) { c with k := 0 }
def errF (c : OC) (l : List Nat) : Int := l.foldl (fun x i => if i = 6 ∨ inR (num c i) = true then x else 7) 0
theorem bareF_snoc (c : OC) (l : List Nat) (i : Nat) : bareF c (l ++ [i]) = setN (bareF c l) i 0 := by simp [bareF]
theorem errF_snoc (c : OC) (l : List Nat) (i : Nat) : errF c (l ++ [i]) = if i = 6 ∨ inR (num c i) = true then errF c l else 7 := by simp [errF]
theorem kind_casesP {k : Int} (h : 1 ≤ k ∧ k ≤ 11) : k = 1 ∨ k = 2 ∨ k = 3 ∨ k = 4 ∨ k = 5 ∨ k = 6 ∨ k = 7 ∨ k = 8 ∨ k = 9 ∨ k = 10 ∨ k = 11 := by omega
theorem bareF_zero (c : OC) (h : 1 ≤ c.k ∧ c.k ≤ 11) : bareF c (kf c.k) = ⟨0, 0, 0, 0, 0, 0, 0⟩ ↔ bareOk c = true := by
  obtain ⟨k, a, b, f, p, r, v⟩ := c
  rcases kind_casesP h with rfl | rfl | rfl | rfl | rfl | rfl | rfl | rfl | rfl | rfl | rfl <;> simp [bareF, bareOk, kf, setN, num] <;> omega
theorem errF_all (c : OC) (h : 1 ≤ c.k ∧ c.k ≤ 11) : errF c (kf c.k) = if rangeOk c = true then 0 else 7 := by
  obtain ⟨k, a, b, f, p, r, v⟩ := c
  rcases kind_casesP h with rfl | rfl | rfl | rfl | rfl | rfl | rfl | rfl | rfl | rfl | rfl <;> simp [errF, rangeOk, kf, num] <;> grind
theorem kf_len3 (k : Int) (h : 1 ≤ k ∧ k ≤ 11) : (kf k).length ≤ 3 := by
  rcases kind_casesP h with rfl | rfl | rfl | rfl | rfl | rfl | rfl | rfl | rfl | rfl | rfl <;> decide
theorem num_bareF (c : OC) (h : 1 ≤ c.k ∧ c.k ≤ 11) (i j : Nat) (hj : (kf c.k)[i]? = some j) : num (bareF c ((kf c.k).take i)) j = num c j := by
  have h3 := kf_len3 c.k h
  have hi := (List.getElem?_eq_some_iff.1 hj).1
  obtain ⟨k, a, b, f, p, r, v⟩ := c
  have hi3 : i = 0 ∨ i = 1 ∨ i = 2 := by simp only at h3 hi; omega
  rcases kind_casesP h with rfl | rfl | rfl | rfl | rfl | rfl | rfl | rfl | rfl | rfl | rfl <;> rcases hi3 with rfl | rfl | rfl <;> simp [kf] at hj <;> subst hj <;> rfl
theorem bareF_k (c : OC) : ∀ l : List Nat, (bareF c l).k = 0 := by
  have h : ∀ (l : List Nat) (d : OC), (l.foldl (fun c i => setN c i 0) d).k = d.k := by
    intro l
    induction l with
    | nil => intro d; rfl
    | cons i l ih => intro d; rw [List.foldl_cons, ih]; unfold setN; repeat (first | rfl | split)
  exact fun l => h l _
/-- The first field that is left. -/
theorem bareF_ne (c : OC) (h : 1 ≤ c.k ∧ c.k ≤ 11) (hb : bareOk c = false) : ∃ a b f p r v : Int, bareF c (kf c.k) = ⟨0, a, b, f, p, r, v⟩ ∧ (a ≠ 0 ∨ (a = 0 ∧ b ≠ 0) ∨ (a = 0 ∧ b = 0 ∧ f ≠ 0) ∨ (a = 0 ∧ b = 0 ∧ f = 0 ∧ p ≠ 0) ∨ (a = 0 ∧ b = 0 ∧ f = 0 ∧ p = 0 ∧ r ≠ 0) ∨ (a = 0 ∧ b = 0 ∧ f = 0 ∧ p = 0 ∧ r = 0 ∧ v ≠ 0)) := by
  have hk := bareF_k c (kf c.k)
  have hz : ¬ bareF c (kf c.k) = ⟨0, 0, 0, 0, 0, 0, 0⟩ := by rw [bareF_zero c h, hb]; simp
  generalize bareF c (kf c.k) = y at hk hz ⊢
  obtain ⟨k, a, b, f, p, r, v⟩ := y
  obtain rfl : k = 0 := hk
  refine ⟨a, b, f, p, r, v, rfl, ?_⟩
  simp only [OC.mk.injEq, true_and] at hz
  omega
theorem chk_ok (c : OC) (h : 1 ≤ c.k ∧ c.k ≤ 11) (hb : bareOk c = true) : chkE c = errF c (kf c.k) := by
  rw [errF_all c h]; unfold chkE kindOk; rw [hb, decide_eq_true h]; rfl
theorem chk_no (c : OC) (hb : bareOk c = false) : chkE c = 2 := by
  unfold chkE; rw [hb, Bool.and_false]; rfl
end Sc
end Go.Proofs.YtaojogaakhidhaaGreatDoor
namespace Go.Proofs.YtaojogaakhidhaaGreatDoor
open Go.RowKit
/-- A row of the table at a kind. -/
theorem idx_row (g : Nat → Nat) (n : Nat) (h1 : 1 ≤ n) (h11 : n ≤ 11) : ∃ (name : ByteArray) (p : Option Addr) (len : Nat), (∀ W, (Instr.index 50 (.agg (tabCells g)) (.int .i64 n)).run Tryz.prog W = .ok (.agg #[.string name, .slice p len len]) W) ∧ len = (Sc.kf (n : Int)).length ∧ (n ≤ 10 → p = some ⟨g n, 0, none⟩) ∧ name.data.toList = Sc.kw (n : Int) := by
  obtain rfl | rfl | rfl | rfl | rfl | rfl | rfl | rfl | rfl | rfl | rfl : n = 1 ∨ n = 2 ∨ n = 3 ∨ n = 4 ∨ n = 5 ∨ n = 6 ∨ n = 7 ∨ n = 8 ∨ n = 9 ∨ n = 10 ∨ n = 11 := by omega
  · exact ⟨_, _, _, fun W => idx_tab g 1 (by decide) (by decide) W, rfl, fun _ => rfl, rfl⟩
  · exact ⟨_, _, _, fun W => idx_tab g 2 (by decide) (by decide) W, rfl, fun _ => rfl, rfl⟩
  · exact ⟨_, _, _, fun W => idx_tab g 3 (by decide) (by decide) W, rfl, fun _ => rfl, rfl⟩
  · exact ⟨_, _, _, fun W => idx_tab g 4 (by decide) (by decide) W, rfl, fun _ => rfl, rfl⟩
  · exact ⟨_, _, _, fun W => idx_tab g 5 (by decide) (by decide) W, rfl, fun _ => rfl, rfl⟩
  · exact ⟨_, _, _, fun W => idx_tab g 6 (by decide) (by decide) W, rfl, fun _ => rfl, rfl⟩
  · exact ⟨_, _, _, fun W => idx_tab g 7 (by decide) (by decide) W, rfl, fun _ => rfl, rfl⟩
  · exact ⟨_, _, _, fun W => idx_tab g 8 (by decide) (by decide) W, rfl, fun _ => rfl, rfl⟩
  · exact ⟨_, _, _, fun W => idx_tab g 9 (by decide) (by decide) W, rfl, fun _ => rfl, rfl⟩
  · exact ⟨_, _, _, fun W => idx_tab g 10 (by decide) (by decide) W, rfl, fun _ => rfl, rfl⟩
  · exact ⟨_, _, _, fun W => idx_tab g 11 (by decide) (by decide) W, rfl, fun h => absurd h (by decide), rfl⟩
/-- The fields of a row. -/
theorem fld_row (nm : ByteArray) (q : Option Addr) (l : Nat) (W : World) : (Instr.field 49 (.agg #[.string nm, .slice q l l]) 1).run Tryz.prog W = .ok (.slice q l l) W := by kernel_rfl
end Go.Proofs.YtaojogaakhidhaaGreatDoor

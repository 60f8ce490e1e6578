/- Check in plain Lean: the fields taken one after the other. Package ops: a row of the table. -/
import Derived.Test.YtaojogaakhidhaaDoorOpPl
import Derived.Test.YtaojogaakhidhaaDoorQ1
namespace Go.Proofs.YtaojogaakhidhaaDoor
namespace Sc
/-- The operation with its kind and the first fields of a list taken out. -/
def bareF (c : OC) (l : List Nat) : OC := l.foldl (fun c i => setN c i 0) { c with k := 0 }
def errF (c : OC) (l : List Nat) : Int := l.foldl (fun x i => if i = 6 ∨ inR (num c i) = true then x else 7) 0
theorem bareF_snoc (c : OC) (l : List Nat) (i : Nat) : bareF c (l ++ [i]) = setN (bareF c l) i 0 := by simp [bareF]
theorem errF_snoc (c : OC) (l : List Nat) (i : Nat) : errF c (l ++ [i]) = if i = 6 ∨ inR (num c i) = true then errF c l else 7 := by simp [errF]
theorem kind_casesP {k : Int} (h : 1 ≤ k ∧ k ≤ 11) : k = 1 ∨ k = 2 ∨ k = 3 ∨ k = 4 ∨ k = 5 ∨ k = 6 ∨ k = 7 ∨ k = 8 ∨ k = 9 ∨ k = 10 ∨ k = 11 := by omega
theorem bareF_zero (c : OC) (h : 1 ≤ c.k ∧ c.k ≤ 11) : bareF c (kf c.k) = ⟨0, 0, 0, 0, 0, 0, 0⟩ ↔ bareOk c = true := by
  obtain ⟨k, a, b, f, p, r, v⟩ := c
  rcases kind_casesP h with rfl | rfl | rfl | rfl | rfl | rfl | rfl | rfl | rfl | rfl | rfl <;> simp [bareF, bareOk, kf, setN, num] <;> omega
theorem errF_all (c : OC) (h : 1 ≤ c.k ∧ c.k ≤ 11) : errF c (kf c.k) = if rangeOk c = true then 0 else 7 := by
  obtain ⟨k, a, b, f, p, r, v⟩ := c
  rcases kind_casesP h with rfl | rfl | rfl | rfl | rfl | rfl | rfl | rfl | rfl | rfl | rfl <;> simp [errF, rangeOk, kf, num] <;> grind
theorem kf_len3 (k : Int) (h : 1 ≤ k ∧ k ≤ 11) : (kf k).length ≤ 3 := by
  rcases kind_casesP h with rfl | rfl | rfl | rfl | rfl | rfl | rfl | rfl | rfl | rfl | rfl <;> decide
theorem num_bareF (c : OC) (h : 1 ≤ c.k ∧ c.k ≤ 11) (i j : Nat) (hj : (kf c.k)[i]? = some j) : num (bareF c ((kf c.k).take i)) j = num c j := by
  have h3 := kf_len3 c.k h
  have hi := (List.getElem?_eq_some_iff.1 hj).1
  obtain ⟨k, a, b, f, p, r, v⟩ := c
  have hi3 : i = 0 ∨ i = 1 ∨ i = 2 := by simp only at h3 hi; omega
  rcases kind_casesP h with rfl | rfl | rfl | rfl | rfl | rfl | rfl | rfl | rfl | rfl | rfl <;> rcases hi3 with rfl | rfl | rfl <;> simp [kf] at hj <;> subst hj <;> rfl
theorem bareF_k (c : OC) : ∀ l : List Nat, (bareF c l).k = 0 := by
  have h : ∀ (l : List Nat) (d : OC), (l.foldl (fun c i => setN c i 0) d).k = d.k := by
    intro l
    induction l with
    | nil => intro d; rfl
    | cons i l ih => intro d; rw [List.foldl_cons, ih]; unfold setN; repeat (first | rfl | split)
  exact fun l => h l _
/-- The first field that is left. -/
theorem bareF_ne (c : OC) (h : 1 ≤ c.k ∧ c.k ≤ 11) (hb : bareOk c = false) : ∃ a b f p r v : Int, bareF c (kf c.k) = ⟨0, a, b, f, p, r, v⟩ ∧ (a ≠ 0 ∨ (a = 0 ∧ b ≠ 0) ∨ (a = 0 ∧ b = 0 ∧ f ≠ 0) ∨ (a = 0 ∧ b = 0 ∧ f = 0 ∧ p ≠ 0) ∨ (a = 0 ∧ b = 0 ∧ f = 0 ∧ p = 0 ∧ r ≠ 0) ∨ (a = 0 ∧ b = 0 ∧ f = 0 ∧ p = 0 ∧ r = 0 ∧ v ≠ 0)) := by
  have hk := bareF_k c (kf c.k)
  have hz : ¬ bareF c (kf c.k) = ⟨0, 0, 0, 0, 0, 0, 0⟩ := by rw [bareF_zero c h, hb]; simp
  generalize bareF c (kf c.k) = y at hk hz ⊢
  obtain ⟨k, a, b, f, p, r, v⟩ := y
  obtain rfl : k = 0 := hk
  refine ⟨a, b, f, p, r, v, rfl, ?_⟩
  simp only [OC.mk.injEq, true_and] at hz
  omega
theorem chk_ok (c : OC) (h : 1 ≤ c.k ∧ c.k ≤ 11) (hb : bareOk c = true) : chkE c = errF c (kf c.k) := by
  rw [errF_all c h]; unfold chkE kindOk; rw [hb, decide_eq_true h]; rfl
theorem chk_no (c : OC) (hb : bareOk c = false) : chkE c = 2 := by
  unfold chkE; rw [hb, Bool.and_false]; rfl
end Sc
end Go.Proofs.YtaojogaakhidhaaDoor
namespace Go.Proofs.YtaojogaakhidhaaDoor
open Go.RowKit
/-- A row of the table at a kind. -/
theorem idx_row (g : Nat → Nat) (n : Nat) (h1 : 1 ≤ n) (h11 : n ≤ 11) : ∃ (name : ByteArray) (p : Option Addr) (len : Nat), (∀ W, (Instr.index 57 (.agg (tabCells g)) (.int .i64 n)).run Tryd.prog W = .ok (.agg #[.string name, .slice p len len]) W) ∧ len = (Sc.kf (n : Int)).length ∧ (n ≤ 10 → p = some ⟨g n, 0, none⟩) ∧ name.data.toList = Sc.kw (n : Int) := by
  obtain rfl | rfl | rfl | rfl | rfl | rfl | rfl | rfl | rfl | rfl | rfl : n = 1 ∨ n = 2 ∨ n = 3 ∨ n = 4 ∨ n = 5 ∨ n = 6 ∨ n = 7 ∨ n = 8 ∨ n = 9 ∨ n = 10 ∨ n = 11 := by omega
  · exact ⟨_, _, _, fun W => idx_tab g 1 (by decide) (by decide) W, rfl, fun _ => rfl, rfl⟩
  · exact ⟨_, _, _, fun W => idx_tab g 2 (by decide) (by decide) W, rfl, fun _ => rfl, rfl⟩
  · exact ⟨_, _, _, fun W => idx_tab g 3 (by decide) (by decide) W, rfl, fun _ => rfl, rfl⟩
  · exact ⟨_, _, _, fun W => idx_tab g 4 (by decide) (by decide) W, rfl, fun _ => rfl, rfl⟩
  · exact ⟨_, _, _, fun W => idx_tab g 5 (by decide) (by decide) W, rfl, fun _ => rfl, rfl⟩
  · exact ⟨_, _, _, fun W => idx_tab g 6 (by decide) (by decide) W, rfl, fun _ => rfl, rfl⟩
  · exact ⟨_, _, _, fun W => idx_tab g 7 (by decide) (by decide) W, rfl, fun _ => rfl, rfl⟩
  · exact ⟨_, _, _, fun W => idx_tab g 8 (by decide) (by decide) W, rfl, fun _ => rfl, rfl⟩
  · exact ⟨_, _, _, fun W => idx_tab g 9 (by decide) (by decide) W, rfl, fun _ => rfl, rfl⟩
  · exact ⟨_, _, _, fun W => idx_tab g 10 (by decide) (by decide) W, rfl, fun _ => rfl, rfl⟩
  · exact ⟨_, _, _, fun W => idx_tab g 11 (by decide) (by decide) W, rfl, fun h => absurd h (by decide), rfl⟩
/-- The fields of a row. -/
theorem fld_row (nm : ByteArray) (q : Option Addr) (l : Nat) (W : World) : (Instr.field 56 (.agg #[.string nm, .slice q l l]) 1).run Tryd.prog W = .ok (.slice q l l) W := by kernel_rfl
end Go.Proofs.YtaojogaakhidhaaDoor

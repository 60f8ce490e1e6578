/- Package ops: a row of the table. -/
import Derived.Test.YtbfnkdbibgljhaaDoorOpNum
namespace Go.Proofs.YtbfnkdbibgljhaaDoor
open Go.RowKit
/-- A row of the table at a kind. -/
theorem idx_row (g : Nat → Nat) (n : Nat) (h1 : 1 ≤ n) (h11 : n ≤ 11) : ∃ (name : ByteArray) (p : Option Addr) (len : Nat), (∀ W, (Instr.index 61 (.agg (tabCells g)) (.int .i64 n)).run Tryd.prog W = .ok (.agg #[.string name, .slice p len len]) W) ∧ len = (Sc.kf (n : Int)).length ∧ (n ≤ 10 → p = some ⟨g n, 0, none⟩) ∧ name.data.toList = Sc.kw (n : Int) := by
  obtain rfl | rfl | rfl | rfl | rfl | rfl | rfl | rfl | rfl | rfl | rfl : n = 1 ∨ n = 2 ∨ n = 3 ∨ n = 4 ∨ n = 5 ∨ n = 6 ∨ n = 7 ∨ n = 8 ∨ n = 9 ∨ n = 10 ∨ n = 11 := by omega
  · exact ⟨_, _, _, fun W => idx_tab g 1 (by decide) (by decide) W, rfl, fun _ => rfl, rfl⟩
  · exact ⟨_, _, _, fun W => idx_tab g 2 (by decide) (by decide) W, rfl, fun _ => rfl, rfl⟩
  · exact ⟨_, _, _, fun W => idx_tab g 3 (by decide) (by decide) W, rfl, fun _ => rfl, rfl⟩
  · exact ⟨_, _, _, fun W => idx_tab g 4 (by decide) (by decide) W, rfl, fun _ => rfl, rfl⟩
  · exact ⟨_, _, _, fun W => idx_tab g 5 (by decide) (by decide) W, rfl, fun _ => rfl, rfl⟩
  · exact ⟨_, _, _, fun W => idx_tab g 6 (by decide) (by decide) W, rfl, fun _ => rfl, rfl⟩
  · exact ⟨_, _, _, fun W => idx_tab g 7 (by decide) (by decide) W, rfl, fun _ => rfl, rfl⟩
  · exact ⟨_, _, _, fun W => idx_tab g 8 (by decide) (by decide) W, rfl, fun _ => rfl, rfl⟩
  · exact ⟨_, _, _, fun W => idx_tab g 9 (by decide) (by decide) W, rfl, fun _ => rfl, rfl⟩
  · exact ⟨_, _, _, fun W => idx_tab g 10 (by decide) (by decide) W, rfl, fun _ => rfl, rfl⟩
  · exact ⟨_, _, _, fun W => idx_tab g 11 (by decide) (by decide) W, rfl, fun h => absurd h (by decide), rfl⟩
/-- The fields of a row. -/
theorem fld_row (nm : ByteArray) (q : Option Addr) (l : Nat) (W : World) : (Instr.field 60 (.agg #[.string nm, .slice q l l]) 1).run Tryd.prog W = .ok (.slice q l l) W := by kernel_rfl
end Go.Proofs.YtbfnkdbibgljhaaDoor

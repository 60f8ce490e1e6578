/- Package ops: number. -/
import Derived.Test.YtbfnkdbibgljhaaDoorOpTab
namespace Go.Proofs.YtbfnkdbibgljhaaDoor
open Go.RowKit
def numCells (b : Nat) : Array Value := #[.pointer none, .pointer (some ⟨b, 1, none⟩), .pointer (some ⟨b, 2, none⟩), .pointer (some ⟨b, 3, none⟩), .pointer (some ⟨b, 4, none⟩), .pointer (some ⟨b, 5, none⟩)]
theorem idx_num (b k : Nat) (h1 : 1 ≤ k) (h5 : k ≤ 5) (W : World) : (Instr.index 89 (.agg (numCells b)) (.int .i64 k)).run Tryd.prog W = .ok (.pointer (some ⟨b, k, none⟩)) W := by
  obtain rfl | rfl | rfl | rfl | rfl : k = 1 ∨ k = 2 ∨ k = 3 ∨ k = 4 ∨ k = 5 := by omega
  all_goals kernel_rfl
theorem idx_tab (g : Nat → Nat) (k : Nat) (h1 : 1 ≤ k) (h5 : k ≤ 11) (W : World) : (Instr.index 61 (.agg (tabCells g)) (.int .i64 k)).run Tryd.prog W = .ok (.agg #[(tabCells g).getD (2 * k) undef, (tabCells g).getD (2 * k + 1) undef]) W := by
  obtain rfl | rfl | rfl | rfl | rfl | rfl | rfl | rfl | rfl | rfl | rfl : k = 1 ∨ k = 2 ∨ k = 3 ∨ k = 4 ∨ k = 5 ∨ k = 6 ∨ k = 7 ∨ k = 8 ∨ k = 9 ∨ k = 10 ∨ k = 11 := by omega
  all_goals kernel_rfl
set_option maxRecDepth 100000 in
set_option maxHeartbeats 4000000 in
theorem number_any (b k : Nat) (h1 : 1 ≤ k) (h5 : k ≤ 5) (w : World) :
    Calls Tryd.prog 33 #[.pointer (some ⟨b, 0, none⟩), .int .i64 k] w fun e w' => e = .returned (.pointer (some ⟨b, k, none⟩)) ∧ Ow w w' := by
  have HI := fun W => idx_num b k h1 h5 W
  unfold numCells at HI
  clear h1 h5
  go_enter Tryd.func33, Tryd.ntmps33
  go_wp2_with (go_region_with fail)
  go_ret
  exact ⟨rfl, (Ow.refl _).drew⟩
end Go.Proofs.YtbfnkdbibgljhaaDoor

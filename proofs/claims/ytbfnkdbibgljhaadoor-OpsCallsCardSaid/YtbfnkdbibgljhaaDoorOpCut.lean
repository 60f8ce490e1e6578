/- strings.CutPrefix. -/
import Derived.Test.YtbfnkdbibgljhaaDoorOpTake
import Derived.Test.YtbfnkdbibgljhaaDoorOpUnh
import Derived.Lib.Strings
import Derived.Lib.Slices
import Derived.Laws.Strings3
namespace Go.Proofs.YtbfnkdbibgljhaaDoor
open Go.RowKit
set_option maxHeartbeats 1000000 in
theorem hasP_any (s p : ByteArray) (w : World) :
    Calls Tryd.prog 53 #[.string s, .string p] w fun e w' => e = .returned (.bool (Lib.hasPrefix s.data.toList p.data.toList)) ∧ w' = w := by
  rw [← Lib.hasPrefix_of_take, ← Lib.size_eq, ← Lib.size_eq]
  go_enter Tryd.func53, Tryd.ntmps53
  go_wp2
  · rename_i h
    go_ret
    refine ⟨?_, rfl⟩
    show Ending.returned (Value.bool ((s.extract 0 p.size).toList == p.toList)) = _
    rw [Lib.extract_toList, Lib.toList_data]
    simp [h]
  · rename_i h
    go_ret
    refine ⟨?_, rfl⟩
    show Ending.returned (Value.bool false) = _
    simp [h]
theorem hasP_le {s p : ByteArray} (h : Lib.hasPrefix s.data.toList p.data.toList = true) : p.size ≤ s.size := by
  rw [← Lib.hasPrefix_of_take, ← Lib.size_eq, ← Lib.size_eq] at h
  simp at h
  exact h.1
set_option maxHeartbeats 1000000 in
theorem cutS_yes (s p : ByteArray) (h : Lib.hasPrefix s.data.toList p.data.toList = true) (w : World) :
    Calls Tryd.prog 40 #[.string s, .string p] w fun e w' => e = .returned (.tuple #[.string (s.extract p.size s.size), .bool true]) ∧ w' = w := by
  have hle := hasP_le h
  go_enter Tryd.func40, Tryd.ntmps40
  go_wp2_with (go_at_call 53; refine (hasP_any _ _ _).mono ?_; rintro e w1 ⟨rfl, hw⟩; rw [hw, h])
  go_ret2
  exact ⟨rfl, rfl⟩
set_option maxHeartbeats 1000000 in
theorem cutS_no (s p : ByteArray) (h : Lib.hasPrefix s.data.toList p.data.toList = false) (w : World) :
    Calls Tryd.prog 40 #[.string s, .string p] w fun e w' => e = .returned (.tuple #[.string s, .bool false]) ∧ w' = w := by
  go_enter Tryd.func40, Tryd.ntmps40
  go_wp2_with (go_at_call 53; refine (hasP_any _ _ _).mono ?_; rintro e w1 ⟨rfl, hw⟩; rw [hw, h])
  go_ret2
  exact ⟨rfl, rfl⟩
theorem cut_yes (s p : ByteArray) (h : Lib.hasPrefix s.data.toList p.data.toList = true) (w : World) :
    Calls Tryd.prog 25 #[.string s, .string p] w fun e w' => e = .returned (.tuple #[.string (s.extract p.size s.size), .bool true]) ∧ w' = w := by
  go_enter Tryd.func25, Tryd.ntmps25
  go_wp2_with (go_at_call 40; refine (cutS_yes _ _ h _).mono ?_; rintro e w1 ⟨rfl, hw⟩; rw [hw])
  go_ret2
  exact ⟨rfl, rfl⟩
theorem cut_no (s p : ByteArray) (h : Lib.hasPrefix s.data.toList p.data.toList = false) (w : World) :
    Calls Tryd.prog 25 #[.string s, .string p] w fun e w' => e = .returned (.tuple #[.string s, .bool false]) ∧ w' = w := by
  go_enter Tryd.func25, Tryd.ntmps25
  go_wp2_with (go_at_call 40; refine (cutS_no _ _ h _).mono ?_; rintro e w1 ⟨rfl, hw⟩; rw [hw])
  go_ret2
  exact ⟨rfl, rfl⟩
theorem itoa_any (n : Int) (w : World) (hg : Gl w) (h0 : Ends n n) : Calls Tryd.prog 20 #[.int .i64 n] w fun e w' => e = .returned (.string ⟨(Lib.itoa n).toArray⟩) ∧ Ow w w' :=
  (Tryd.strconv_Itoa n h0.1 h0.2 w hg.pow).mono fun _ _ ⟨h1, h2⟩ => ⟨h1, (Ow.refl w).grown h2⟩
end Go.Proofs.YtbfnkdbibgljhaaDoor

/- strings.CutPrefix. Package ops: Print. -/
import Derived.Test.YtaojogaakhidhaaDoorQ1
import Derived.Test.YtaojogaakhidhaaDoorOpUnh
import Derived.Lib.Strings
import Derived.Lib.Slices
import Derived.Laws.Strings3
import Derived.Test.YtaojogaakhidhaaDoorOpChk
import Derived.Deep.DeepCutAuto
namespace Go.Proofs.YtaojogaakhidhaaDoor
open Go.RowKit
set_option maxHeartbeats 1000000 in
theorem hasP_any (s p : ByteArray) (w : World) :
    Calls Tryd.prog 47 #[.string s, .string p] w fun e w' => e = .returned (.bool (Lib.hasPrefix s.data.toList p.data.toList)) ∧ w' = w := by
  rw [← Lib.hasPrefix_of_take, ← Lib.size_eq, ← Lib.size_eq]
  go_enter Tryd.func47, Tryd.ntmps47
  go_wp2
  · rename_i h
    go_ret
    refine ⟨?_, rfl⟩
    show Ending.returned (Value.bool ((s.extract 0 p.size).toList == p.toList)) = _
    rw [Lib.extract_toList, Lib.toList_data]
    simp [h]
  · rename_i h
    go_ret
    refine ⟨?_, rfl⟩
    show Ending.returned (Value.bool false) = _
    simp [h]
theorem hasP_le {s p : ByteArray} (h : Lib.hasPrefix s.data.toList p.data.toList = true) : p.size ≤ s.size := by
  rw [← Lib.hasPrefix_of_take, ← Lib.size_eq, ← Lib.size_eq] at h
  simp at h
  exact h.1
set_option maxHeartbeats 1000000 in
theorem cutS_yes (s p : ByteArray) (h : Lib.hasPrefix s.data.toList p.data.toList = true) (w : World) :
    Calls Tryd.prog 31 #[.string s, .string p] w fun e w' => e = .returned (.tuple #[.string (s.extract p.size s.size), .bool true]) ∧ w' = w := by
  have hle := hasP_le h
  go_enter Tryd.func31, Tryd.ntmps31
  go_wp2_with (go_at_call 47; refine (hasP_any _ _ _).mono ?_; rintro e w1 ⟨rfl, hw⟩; rw [hw, h])
  go_ret2
  exact ⟨rfl, rfl⟩
set_option maxHeartbeats 1000000 in
theorem cutS_no (s p : ByteArray) (h : Lib.hasPrefix s.data.toList p.data.toList = false) (w : World) :
    Calls Tryd.prog 31 #[.string s, .string p] w fun e w' => e = .returned (.tuple #[.string s, .bool false]) ∧ w' = w := by
  go_enter Tryd.func31, Tryd.ntmps31
  go_wp2_with (go_at_call 47; refine (hasP_any _ _ _).mono ?_; rintro e w1 ⟨rfl, hw⟩; rw [hw, h])
  go_ret2
  exact ⟨rfl, rfl⟩
theorem cut_yes (s p : ByteArray) (h : Lib.hasPrefix s.data.toList p.data.toList = true) (w : World) :
    Calls Tryd.prog 18 #[.string s, .string p] w fun e w' => e = .returned (.tuple #[.string (s.extract p.size s.size), .bool true]) ∧ w' = w := by
  go_enter Tryd.func18, Tryd.ntmps18
  go_wp2_with (go_at_call 31; refine (cutS_yes _ _ h _).mono ?_; rintro e w1 ⟨rfl, hw⟩; rw [hw])
  go_ret2
  exact ⟨rfl, rfl⟩
theorem cut_no (s p : ByteArray) (h : Lib.hasPrefix s.data.toList p.data.toList = false) (w : World) :
    Calls Tryd.prog 18 #[.string s, .string p] w fun e w' => e = .returned (.tuple #[.string s, .bool false]) ∧ w' = w := by
  go_enter Tryd.func18, Tryd.ntmps18
  go_wp2_with (go_at_call 31; refine (cutS_no _ _ h _).mono ?_; rintro e w1 ⟨rfl, hw⟩; rw [hw])
  go_ret2
  exact ⟨rfl, rfl⟩
theorem itoa_any (n : Int) (w : World) (hg : Gl w) (h0 : Ends n n) : Calls Tryd.prog 12 #[.int .i64 n] w fun e w' => e = .returned (.string ⟨(Lib.itoa n).toArray⟩) ∧ Ow w w' :=
  (Tryd.strconv_Itoa n h0.1 h0.2 w hg.pow).mono fun _ _ ⟨h1, h2⟩ => ⟨h1, (Ow.refl w).grown h2⟩
end Go.Proofs.YtaojogaakhidhaaDoor
namespace Go.Proofs.YtaojogaakhidhaaDoor
open Go.RowKit
open Sc (OC OA num setN inR WfC chkE printS lineT prT fieldS hexL)

theorem str_of {l : List UInt8} {u : ByteArray} (h : u.data.toList = l) : u = ⟨l.toArray⟩ := by
  subst h; simp
theorem ba_len' {u : ByteArray} {l : List UInt8} (h : u.data.toList = l) : u.size = l.length := by rw [← h, ba_len]
/-- What stands in the loop over a kind's fields. -/
structure PI (w : World) (c : OC) (n g b : Nat) (nm : ByteArray) (q : Option Addr) (l : Nat) (W : World) : Prop where
  ow : Ow w W
  box : Bx w.heap.size (ocells c) 24 W
  blk : Bx b #[.string nm, .slice q l l] 56 W
  row : n ≤ 10 → q = some ⟨g, 0, none⟩ ∧ Bx g (intCells (kfInts n)) 3 W
theorem PI.then {w : World} {c : OC} {n g b : Nat} {nm : ByteArray} {q : Option Addr} {l : Nat} {W W' : World} (h : PI w c n g b nm q l W) (hb : Ow W W') : PI w c n g b nm q l W' := ⟨Ow.then h.ow hb, h.box.then hb, h.blk.then hb, fun h10 => ⟨(h.row h10).1, (h.row h10).2.then hb⟩⟩
theorem PI.cell {w : World} {c : OC} {n g b i : Nat} {nm : ByteArray} {q : Option Addr} {l : Nat} {W : World} (h : PI w c n g b nm q l W) (h10 : n ≤ 10) {j : Nat} (hj : (Sc.kf (n : Int))[i]? = some j) : W.cell? ⟨g, i, none⟩ = some (.int .i64 j) := by
  refine (h.row h10).2.at ?_
  simp [intCells, kfInts, hj]
theorem ten_of {n i : Nat} (h11 : n ≤ 11) (h : i < (Sc.kf (n : Int)).length) : n ≤ 10 := by
  rcases Nat.lt_or_ge 10 n with h2 | h2
  · obtain rfl : n = 11 := by omega
    exact absurd h (Nat.not_lt_zero _)
  · exact h2
end Go.Proofs.YtaojogaakhidhaaDoor

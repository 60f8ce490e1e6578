/- The law WordsNames, walked. -/
import Derived.Test.YtkbbkolanbgajaaGreatDoorWRDig
namespace Go.Proofs.YtkbbkolanbgajaaGreatDoor
open Go.RowKit
open Wd (intV intE)
theorem wint_is (s : ByteArray) (lo hi v m : Int) (hv : intV s.data.toList lo hi = v) (hm : intE s.data.toList lo hi = m) (w : World) (hs : s.size ≤ 9000) (hg : Gl w) (he : Ends lo hi) : Calls Tryz.prog 7 #[.string s, .int .i64 lo, .int .i64 hi] w fun e w' => e = .returned (.tuple #[.int .i64 v, .int .i64 m]) ∧ Ow w w' := by
  have := int_any s lo hi w hs hg he
  unfold IPost at this
  rwa [hv, hm] at this
theorem rint_is (s : ByteArray) (lo hi v m : Int) (hv : intV s.data.toList lo hi = v) (hm : intE s.data.toList lo hi = m) (w : World) (hs : s.size ≤ 9000) (he : Ends lo hi) : Calls Tryz.prog 57 #[.string s, .int .i64 lo, .int .i64 hi] w fun e w' => e = .returned (.tuple #[.int .i64 v, .int .i64 m]) ∧ Ow w w' := by
  have := rint_any s lo hi w hs he
  unfold IPost at this
  rwa [hv, hm] at this
theorem wname_is (s : ByteArray) (b : Bool) (h : nameB s.data.toList = b) (w : World) (hs : s.size ≤ 9000) : Calls Tryz.prog 12 #[.string s] w fun e w' => e = .returned (.bool b) ∧ Ow w w' := by
  have := name_any s w hs
  unfold NPost at this
  rwa [h] at this
theorem wdig_is (n : Int) (u : ByteArray) (h : u.data.toList = Lib.itoa n) (w : World) (hg : Gl w) (he : Ends n n) : Calls Tryz.prog 19 #[.int .i64 n] w fun e w' => e = .returned (.string u) ∧ Ow w w' := by
  have := digits_any n w hg he
  rwa [← h, ba_mk] at this
theorem rdig_is (n : Int) (u : ByteArray) (h : u.data.toList = Lib.itoa n) (w : World) (he : Ends n n) : Calls Tryz.prog 56 #[.int .i64 n] w fun e w' => e = .returned (.string u) ∧ Ow w w' := rdigits_any (n.natAbs + 1) n u w (by omega) he h
theorem wf_i64 {n : Int} (h : (Lit.int .i64 n).wf = true) : -9223372036854775808 ≤ n ∧ n ≤ 9223372036854775807 := by
  have h2 : (decide (IntKind.i64.min ≤ n) && decide (n ≤ IntKind.i64.max)) = true := h
  rw [Bool.and_eq_true, decide_eq_true_eq, decide_eq_true_eq] at h2
  exact ⟨h2.1, h2.2⟩
end Go.Proofs.YtkbbkolanbgajaaGreatDoor

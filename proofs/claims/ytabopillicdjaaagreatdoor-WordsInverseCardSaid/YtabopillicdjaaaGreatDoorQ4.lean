/- Package words: Lines. The law WordsNames, walked. -/
import Derived.Test.YtabopillicdjaaaGreatDoorQ3
import Derived.Test.YtabopillicdjaaaGreatDoorWStrs
import Derived.Test.YtabopillicdjaaaGreatDoorWRDig
namespace Go.Proofs.YtabopillicdjaaaGreatDoor
open Go.RowKit
open Wd (partsL linesE linesS)

theorem suffix_ten (l : List UInt8) : Lib.hasSuffix l [10] = decide (l.getLast? = some 10) := by
  unfold Lib.hasSuffix
  rw [Bool.eq_iff_iff, List.isSuffixOf_iff_suffix, decide_eq_true_eq]
  constructor
  · rintro ⟨t, rfl⟩; simp
  · intro h
    obtain ⟨m, rfl⟩ := List.getLast?_eq_some_iff.1 h
    exact ⟨m, rfl⟩
def LnPost (s : ByteArray) (w : World) (e : Ending) (w' : World) : Prop := ∃ v, e = .returned (.tuple #[v, .int .i64 (linesE s.data.toList)]) ∧ StrsA w' v (linesS s.data.toList) ∧ Ow w w'
theorem lines_no {t : List UInt8} {m : Int} (h : linesE t = m) (hm : m ≠ 0) : linesS t = [] := by unfold linesS; rw [if_neg]; rintro ⟨h1, _⟩; exact hm (h ▸ h1)
theorem ext_last (s : ByteArray) (_h : 0 < s.size) : (s.extract 0 (s.size - 1)).data.toList = s.data.toList.dropLast := by
  rw [List.dropLast_eq_take, ba_len]
  have : (s.extract 0 (s.size - 1)).data.toList = (s.data.toList.drop 0).take (s.size - 1 - 0) := by simp only [ByteArray.data_extract, Array.toList_extract, List.extract_eq_take_drop]
  rw [this]; rfl

end Go.Proofs.YtabopillicdjaaaGreatDoor
namespace Go.Proofs.YtabopillicdjaaaGreatDoor
open Go.RowKit
open Wd (intV intE)
theorem wint_is (s : ByteArray) (lo hi v m : Int) (hv : intV s.data.toList lo hi = v) (hm : intE s.data.toList lo hi = m) (w : World) (hs : s.size ≤ 9000) (hg : Gl w) (he : Ends lo hi) : Calls Tryz.prog 15 #[.string s, .int .i64 lo, .int .i64 hi] w fun e w' => e = .returned (.tuple #[.int .i64 v, .int .i64 m]) ∧ Ow w w' := by
  have := int_any s lo hi w hs hg he
  unfold IPost at this
  rwa [hv, hm] at this
theorem rint_is (s : ByteArray) (lo hi v m : Int) (hv : intV s.data.toList lo hi = v) (hm : intE s.data.toList lo hi = m) (w : World) (hs : s.size ≤ 9000) (he : Ends lo hi) : Calls Tryz.prog 52 #[.string s, .int .i64 lo, .int .i64 hi] w fun e w' => e = .returned (.tuple #[.int .i64 v, .int .i64 m]) ∧ Ow w w' := by
  have := rint_any s lo hi w hs he
  unfold IPost at this
  rwa [hv, hm] at this
theorem wname_is (s : ByteArray) (b : Bool) (h : nameB s.data.toList = b) (w : World) (hs : s.size ≤ 9000) : Calls Tryz.prog 22 #[.string s] w fun e w' => e = .returned (.bool b) ∧ Ow w w' := by
  have := name_any s w hs
  unfold NPost at this
  rwa [h] at this
theorem wdig_is (n : Int) (u : ByteArray) (h : u.data.toList = Lib.itoa n) (w : World) (hg : Gl w) (he : Ends n n) : Calls Tryz.prog 16 #[.int .i64 n] w fun e w' => e = .returned (.string u) ∧ Ow w w' := by
  have := digits_any n w hg he
  rwa [← h, ba_mk] at this
theorem rdig_is (n : Int) (u : ByteArray) (h : u.data.toList = Lib.itoa n) (w : World) (he : Ends n n) : Calls Tryz.prog 51 #[.int .i64 n] w fun e w' => e = .returned (.string u) ∧ Ow w w' := rdigits_any (n.natAbs + 1) n u w (by omega) he h
theorem wf_i64 {n : Int} (h : (Lit.int .i64 n).wf = true) : -9223372036854775808 ≤ n ∧ n ≤ 9223372036854775807 := by
  have h2 : (decide (IntKind.i64.min ≤ n) && decide (n ≤ IntKind.i64.max)) = true := h
  rw [Bool.and_eq_true, decide_eq_true_eq, decide_eq_true_eq] at h2
  exact ⟨h2.1, h2.2⟩
end Go.Proofs.YtabopillicdjaaaGreatDoor

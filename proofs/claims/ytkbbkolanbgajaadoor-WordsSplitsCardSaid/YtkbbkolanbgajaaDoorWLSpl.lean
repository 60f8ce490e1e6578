/- The law WordsSplits, walked. -/
import Derived.Test.YtkbbkolanbgajaaDoorWRSpl
namespace Go.Proofs.YtkbbkolanbgajaaDoor
open Go.RowKit
open Wd (splitS splitE)

theorem splitS_len (l : List UInt8) : (splitS l).length ≤ 64 := by
  unfold splitS
  split
  · simp
  · split
    · simp
    · split
      · simp
      · rename_i h
        exact Nat.le_of_not_lt (fun e => h (.inr e))
theorem split_is (s : ByteArray) (m : Int) (hm : splitE s.data.toList = m) (w : World) (hs : s.size ≤ 9000) (hg : Gl w) :
    Calls Tryd.prog 10 #[.string s] w fun e w' => ∃ v, e = .returned (.tuple #[v, .int .i64 m]) ∧ Flds w' v (splitS s.data.toList) ∧ Ow w w' := by
  subst hm
  exact (Split_any s w hs hg).mono fun e w' ⟨v, h1, h2, h3⟩ => ⟨v, h1, flds_own h2, h3⟩
theorem rsplit_is (s : ByteArray) (m : Int) (hm : splitE s.data.toList = m) (w : World) (hs : s.size ≤ 9000) :
    Calls Tryd.prog 11 #[.string s] w fun e w' => ∃ v, e = .returned (.tuple #[v, .int .i64 m]) ∧ Flds w' v (splitS s.data.toList) ∧ Ow w w' := by
  subst hm
  exact (rsplit_any s w hs).mono fun e w' ⟨v, h1, h2, h3⟩ => ⟨v, h1, flds_own h2, h3⟩

set_option maxRecDepth 100000 in
set_option maxHeartbeats 2000000 in
theorem splits_walk (s : ByteArray) (_hz : s.size ≤ maxLen) (w : World) (hg : Gl w) :
    Calls Tryd.prog 3 #[.string s] w fun e w' => e = .returned (.bool true) ∧ Ow w w' := by
  have HG := Lib.hid hg
  clear hg
  by_cases h9 : 9000 < s.size
  · have e1 : (3000 : Int) < (s.size : Int) := by omega
    have e2 : decide ((s.size : Int) ≤ 8192) = false := decide_eq_false (by omega)
    have e3 : (9000 : Int) < (s.size : Int) := by omega
    go_enter Tryd.func3, Tryd.ntmps3
    go_wp2_with (go_at_call 9; refine (shown_any _ HG.out).mono ?_; rintro e w1 ⟨rfl, hb1⟩)
    go_ret
    exact ⟨rfl, hb1⟩
  · by_cases h3 : 3000 < s.size
    · by_cases h8 : s.size ≤ 8192
      · have e1 : (3000 : Int) < (s.size : Int) := by omega
        have e2 : (s.size : Int) ≤ 8192 := by omega
        have e3 : decide ((9000 : Int) < (s.size : Int)) = false := decide_eq_false (by omega)
        go_enter Tryd.func3, Tryd.ntmps3
        go_wp2_with (go_at_call 9; refine (shown_any _ HG.out).mono ?_; rintro e w1 ⟨rfl, hb1⟩)
        go_ret
        exact ⟨rfl, hb1⟩
      · have e1 : (3000 : Int) < (s.size : Int) := by omega
        have e2 : decide ((s.size : Int) ≤ 8192) = false := decide_eq_false (by omega)
        have e3 : decide ((9000 : Int) < (s.size : Int)) = false := decide_eq_false (by omega)
        have hs : s.size ≤ 9000 := by omega
        obtain ⟨m, hm⟩ : ∃ m, splitE s.data.toList = m := ⟨_, rfl⟩
        have HM := Lib.hid hm
        clear hm
        go_enter Tryd.func3, Tryd.ntmps3
        go_wp2_with (first
          | (go_at_call 10; refine (split_is _ _ HM.out _ hs HG.out).mono ?_; rintro e w1 ⟨va, rfl, hf1, hb1⟩; have F1 := Lib.hid hf1; clear hf1)
          | (go_at_call 11; refine (rsplit_is _ _ HM.out _ hs).mono ?_; rintro e w2 ⟨vb, rfl, hf2, hb2⟩; have F2 := Lib.hid hf2; clear hf2; have G1 := Lib.hid (F1.out.then hb2))
          | (go_at_call 12; refine (same_true _ _ _ _ G1.out F2.out (Nat.le_trans (splitS_len _) (by decide))).mono ?_; rintro e w3 ⟨rfl, hb3⟩)
          | (go_at_call 9; refine (shown_any _ (((HG.out.below hb1).below hb2).below hb3)).mono ?_; rintro e w4 ⟨rfl, hb4⟩))
        go_ret
        exact ⟨rfl, ((hb1.then hb2).then hb3).then hb4⟩
    · have e1 : decide ((3000 : Int) < (s.size : Int)) = false := decide_eq_false (by omega)
      have e2 : (s.size : Int) ≤ 8192 := by omega
      have e3 : decide ((9000 : Int) < (s.size : Int)) = false := decide_eq_false (by omega)
      have hs : s.size ≤ 9000 := by omega
      obtain ⟨m, hm⟩ : ∃ m, splitE s.data.toList = m := ⟨_, rfl⟩
      have HM := Lib.hid hm
      clear hm
      go_enter Tryd.func3, Tryd.ntmps3
      go_wp2_with (first
        | (go_at_call 10; refine (split_is _ _ HM.out _ hs HG.out).mono ?_; rintro e w1 ⟨va, rfl, hf1, hb1⟩; have F1 := Lib.hid hf1; clear hf1)
        | (go_at_call 11; refine (rsplit_is _ _ HM.out _ hs).mono ?_; rintro e w2 ⟨vb, rfl, hf2, hb2⟩; have F2 := Lib.hid hf2; clear hf2; have G1 := Lib.hid (F1.out.then hb2))
        | (go_at_call 12; refine (same_true _ _ _ _ G1.out F2.out (Nat.le_trans (splitS_len _) (by decide))).mono ?_; rintro e w3 ⟨rfl, hb3⟩)
        | (go_at_call 9; refine (shown_any _ (((HG.out.below hb1).below hb2).below hb3)).mono ?_; rintro e w4 ⟨rfl, hb4⟩))
      go_ret
      exact ⟨rfl, ((hb1.then hb2).then hb3).then hb4⟩
end Go.Proofs.YtkbbkolanbgajaaDoor

/- The law WordsJoins, walked. -/
import Derived.Test.YtkbbkolanbgajaaDoorWRJn
import Derived.Test.YtkbbkolanbgajaaDoorWFar
namespace Go.Proofs.YtkbbkolanbgajaaDoor
open Go.RowKit
open Wd (joinE joinS)
theorem wjoin_is (v : Value) (fs : List (List UInt8 × Bool)) (t : ByteArray) (m : Int) (ht : t.data.toList = joinS fs) (hm : joinE fs = m) (w : World) (hf : FldsA w v fs) (hn : fs.length ≤ 100000) (hg : Gl w) : Calls Tryd.prog 24 #[v] w fun e w' => e = .returned (.tuple #[.string t, .int .i64 m]) ∧ Ow w w' := by
  have := join_any v fs w hf hn hg
  unfold JnPost at this
  rwa [← ht, ba_mk, hm] at this
theorem rjoin_is (v : Value) (fs : List (List UInt8 × Bool)) (t : ByteArray) (m : Int) (ht : t.data.toList = joinS fs) (hm : joinE fs = m) (w : World) (hf : FldsA w v fs) (hn : fs.length ≤ 100000) : Calls Tryd.prog 25 #[v] w fun e w' => e = .returned (.tuple #[.string t, .int .i64 m]) ∧ Ow w w' := by
  have := rjoin_any v fs w hf hn
  unfold JnPost at this
  rwa [← ht, ba_mk, hm] at this
set_option maxRecDepth 100000 in
set_option maxHeartbeats 2000000 in
theorem joins_walk (v : Value) (fs : List (List UInt8 × Bool)) (w : World) (hf : FldsA w v fs) (hz : fs.length ≤ maxLen) (hg : Gl w) :
    Calls Tryd.prog 6 #[v] w fun e w' => e = .returned (.bool true) ∧ Ow w w' := by
  unfold maxLen at hz
  have HG := Lib.hid hg
  have HF := Lib.hid hf
  clear hg hf
  cases hfar : farB fs with
  | true =>
    have HFar := Lib.hid hfar
    clear hfar
    go_enter Tryd.func6, Tryd.ntmps6
    go_wp2_with (first
      | (go_at_call 23; refine (far_any _ _ _ HFar.out _ HF.out hz).mono ?_; rintro e w1 ⟨rfl, rfl⟩)
      | (go_at_call 9; refine (shown_any _ HG.out).mono ?_; rintro e w1 ⟨rfl, hb1⟩))
    go_ret
    exact ⟨rfl, hb1⟩
  | false =>
    have HFar := Lib.hid hfar
    have hn : fs.length ≤ 100000 := by have := far_len hfar; omega
    obtain ⟨m, hm⟩ : ∃ m, joinE fs = m := ⟨_, rfl⟩
    obtain ⟨t, ht⟩ : ∃ t : ByteArray, t.data.toList = joinS fs := ⟨⟨(joinS fs).toArray⟩, rfl⟩
    have HM := Lib.hid hm
    have HT := Lib.hid ht
    clear hfar hm ht
    go_enter Tryd.func6, Tryd.ntmps6
    go_wp2_with (first
      | (go_at_call 23; refine (far_any _ _ _ HFar.out _ HF.out hz).mono ?_; rintro e w1 ⟨rfl, rfl⟩)
      | (go_at_call 24; refine (wjoin_is _ _ _ _ HT.out HM.out _ HF.out hn HG.out).mono ?_; rintro e w2 ⟨rfl, hb2⟩)
      | (go_at_call 25; refine (rjoin_is _ _ _ _ HT.out HM.out _ (HF.out.then hb2) hn).mono ?_; rintro e w3 ⟨rfl, hb3⟩)
      | (go_at_call 9; refine (shown_any _ ((HG.out.below hb2).below hb3)).mono ?_; rintro e w4 ⟨rfl, hb4⟩))
    go_ret
    exact ⟨rfl, Ow.then (Ow.then hb2 hb3) hb4⟩
end Go.Proofs.YtkbbkolanbgajaaDoor

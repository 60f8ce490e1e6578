/- The law WordsQuotes, walked. -/
import Derived.Test.YtkbbkolanbgajaaDoorWQte
namespace Go.Proofs.YtkbbkolanbgajaaDoor
open Go.RowKit
open Wd (quoteL unquoteS unquoteE)
theorem wq_is (s u : ByteArray) (h : u.data.toList = quoteL s.data.toList) (w : World) (hs : s.size ≤ 9000) (hg : Gl w) : Calls Tryd.prog 21 #[.string s] w fun e w' => e = .returned (.string u) ∧ Ow w w' := by
  have := wquote_any s w hs hg
  unfold QtPost at this
  rwa [← h, ba_mk] at this
theorem rq_is (s u : ByteArray) (h : u.data.toList = quoteL s.data.toList) (w : World) (hs : s.size ≤ 9000) : Calls Tryd.prog 22 #[.string s] w fun e w' => e = .returned (.string u) ∧ Ow w w' := by
  have := rquote_any s w hs
  unfold QtPost at this
  rwa [← h, ba_mk] at this
theorem wu_is (s t : ByteArray) (m : Int) (ht : t.data.toList = unquoteS s.data.toList) (hm : unquoteE s.data.toList = m) (w : World) (hs : s.size ≤ 9000) (hg : Gl w) : Calls Tryd.prog 19 #[.string s] w fun e w' => e = .returned (.tuple #[.string t, .int .i64 m]) ∧ Ow w w' := by
  refine (Unquote_any s w hs hg).mono fun e w' ⟨h1, h2⟩ => ⟨?_, h2⟩
  rw [h1, ← ht, ba_mk, hm]
theorem ru_is (s t : ByteArray) (m : Int) (ht : t.data.toList = unquoteS s.data.toList) (hm : unquoteE s.data.toList = m) (w : World) (hs : s.size ≤ 9000) : Calls Tryd.prog 20 #[.string s] w fun e w' => e = .returned (.tuple #[.string t, .int .i64 m]) ∧ Ow w w' := by
  have := runquote_any s w hs
  unfold RUPost at this
  rwa [← ht, ba_mk, hm] at this
set_option maxRecDepth 100000 in
set_option maxHeartbeats 2000000 in
theorem quotes_walk (s : ByteArray) (_hz : s.size ≤ maxLen) (w : World) (hg : Gl w) :
    Calls Tryd.prog 5 #[.string s] w fun e w' => e = .returned (.bool true) ∧ Ow w w' := by
  have HG := Lib.hid hg
  clear hg
  by_cases h9 : 1000 < s.size
  · have e3 : (1000 : Int) < (s.size : Int) := by omega
    go_enter Tryd.func5, Tryd.ntmps5
    go_wp2_with (go_at_call 9; refine (shown_any _ HG.out).mono ?_; rintro e w1 ⟨rfl, hb1⟩)
    go_ret
    exact ⟨rfl, hb1⟩
  · have e3 : decide ((1000 : Int) < (s.size : Int)) = false := decide_eq_false (by omega)
    have hs : s.size ≤ 9000 := by omega
    obtain ⟨m, hm⟩ : ∃ m, unquoteE s.data.toList = m := ⟨_, rfl⟩
    obtain ⟨t, ht⟩ : ∃ t : ByteArray, t.data.toList = unquoteS s.data.toList := ⟨⟨(unquoteS s.data.toList).toArray⟩, rfl⟩
    obtain ⟨u, hu⟩ : ∃ u : ByteArray, u.data.toList = quoteL s.data.toList := ⟨⟨(quoteL s.data.toList).toArray⟩, rfl⟩
    have HM := Lib.hid hm
    have HT := Lib.hid ht
    have HU := Lib.hid hu
    clear hm ht hu
    go_enter Tryd.func5, Tryd.ntmps5
    go_wp2_with (first
      | (go_at_call 19; refine (wu_is _ _ _ HT.out HM.out _ hs HG.out).mono ?_; rintro e w1 ⟨rfl, hb1⟩)
      | (go_at_call 20; refine (ru_is _ _ _ HT.out HM.out _ hs).mono ?_; rintro e w2 ⟨rfl, hb2⟩)
      | (go_at_call 21; refine (wq_is _ _ HU.out _ hs ((HG.out.below hb1).below hb2)).mono ?_; rintro e w3 ⟨rfl, hb3⟩)
      | (go_at_call 22; refine (rq_is _ _ HU.out _ hs).mono ?_; rintro e w4 ⟨rfl, hb4⟩)
      | (go_at_call 9; refine (shown_any _ ((((HG.out.below hb1).below hb2).below hb3).below hb4)).mono ?_; rintro e w5 ⟨rfl, hb5⟩))
    go_ret
    exact ⟨rfl, (((hb1.then hb2).then hb3).then hb4).then hb5⟩
end Go.Proofs.YtkbbkolanbgajaaDoor

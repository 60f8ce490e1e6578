/- The law WordsNames, walked. -/
import Derived.Test.YtkbbkolanbgajaaDoorWRDig
namespace Go.Proofs.YtkbbkolanbgajaaDoor
open Go.RowKit
open Wd (intV intE)
theorem wint_is (s : ByteArray) (lo hi v m : Int) (hv : intV s.data.toList lo hi = v) (hm : intE s.data.toList lo hi = m) (w : World) (hs : s.size ≤ 9000) (hg : Gl w) (he : Ends lo hi) : Calls Tryd.prog 13 #[.string s, .int .i64 lo, .int .i64 hi] w fun e w' => e = .returned (.tuple #[.int .i64 v, .int .i64 m]) ∧ Ow w w' := by
  have := int_any s lo hi w hs hg he
  unfold IPost at this
  rwa [hv, hm] at this
theorem rint_is (s : ByteArray) (lo hi v m : Int) (hv : intV s.data.toList lo hi = v) (hm : intE s.data.toList lo hi = m) (w : World) (hs : s.size ≤ 9000) (he : Ends lo hi) : Calls Tryd.prog 14 #[.string s, .int .i64 lo, .int .i64 hi] w fun e w' => e = .returned (.tuple #[.int .i64 v, .int .i64 m]) ∧ Ow w w' := by
  have := rint_any s lo hi w hs he
  unfold IPost at this
  rwa [hv, hm] at this
theorem wname_is (s : ByteArray) (b : Bool) (h : nameB s.data.toList = b) (w : World) (hs : s.size ≤ 9000) : Calls Tryd.prog 15 #[.string s] w fun e w' => e = .returned (.bool b) ∧ Ow w w' := by
  have := name_any s w hs
  unfold NPost at this
  rwa [h] at this
theorem rname_is (s : ByteArray) (b : Bool) (h : nameB s.data.toList = b) (w : World) (hs : s.size ≤ 9000) : Calls Tryd.prog 16 #[.string s] w fun e w' => e = .returned (.bool b) ∧ Ow w w' := by
  have := rname_any s w hs
  unfold NPost at this
  rwa [h] at this
theorem wdig_is (n : Int) (u : ByteArray) (h : u.data.toList = Lib.itoa n) (w : World) (hg : Gl w) (he : Ends n n) : Calls Tryd.prog 17 #[.int .i64 n] w fun e w' => e = .returned (.string u) ∧ Ow w w' := by
  have := digits_any n w hg he
  rwa [← h, ba_mk] at this
theorem rdig_is (n : Int) (u : ByteArray) (h : u.data.toList = Lib.itoa n) (w : World) (he : Ends n n) : Calls Tryd.prog 18 #[.int .i64 n] w fun e w' => e = .returned (.string u) ∧ Ow w w' := rdigits_any (n.natAbs + 1) n u w (by omega) he h
theorem wf_i64 {n : Int} (h : (Lit.int .i64 n).wf = true) : -9223372036854775808 ≤ n ∧ n ≤ 9223372036854775807 := by
  have h2 : (decide (IntKind.i64.min ≤ n) && decide (n ≤ IntKind.i64.max)) = true := h
  rw [Bool.and_eq_true, decide_eq_true_eq, decide_eq_true_eq] at h2
  exact ⟨h2.1, h2.2⟩
set_option maxRecDepth 100000 in
set_option maxHeartbeats 2000000 in
theorem names_walk (s : ByteArray) (lo hi : Int) (_hz : s.size ≤ maxLen) (hlo : (Lit.int .i64 lo).wf = true) (hhi : (Lit.int .i64 hi).wf = true) (w : World) (hg : Gl w) :
    Calls Tryd.prog 4 #[.string s, .int .i64 lo, .int .i64 hi] w fun e w' => e = .returned (.bool true) ∧ Ow w w' := by
  have HG := Lib.hid hg
  have HL := Lib.hid (wf_i64 hlo)
  have HH := Lib.hid (wf_i64 hhi)
  clear hg hlo hhi
  by_cases h9 : 1000 < s.size
  · have e3 : (1000 : Int) < (s.size : Int) := by omega
    go_enter Tryd.func4, Tryd.ntmps4
    go_wp2_with (go_at_call 9; refine (shown_any _ HG.out).mono ?_; rintro e w1 ⟨rfl, hb1⟩)
    go_ret
    exact ⟨rfl, hb1⟩
  · have e3 : decide ((1000 : Int) < (s.size : Int)) = false := decide_eq_false (by omega)
    have hs : s.size ≤ 9000 := by omega
    have HE : Hid (Ends lo hi) := ⟨HL.out.1, HH.out.2⟩
    obtain ⟨v, hv⟩ : ∃ m, intV s.data.toList lo hi = m := ⟨_, rfl⟩
    obtain ⟨m, hm⟩ : ∃ m, intE s.data.toList lo hi = m := ⟨_, rfl⟩
    obtain ⟨b, hb⟩ : ∃ m, nameB s.data.toList = m := ⟨_, rfl⟩
    obtain ⟨t, ht⟩ : ∃ t : ByteArray, t.data.toList = Lib.itoa lo := ⟨⟨(Lib.itoa lo).toArray⟩, rfl⟩
    obtain ⟨u, hu⟩ : ∃ u : ByteArray, u.data.toList = Lib.itoa hi := ⟨⟨(Lib.itoa hi).toArray⟩, rfl⟩
    have HV := Lib.hid hv
    have HM := Lib.hid hm
    have HB := Lib.hid hb
    have HT := Lib.hid ht
    have HU := Lib.hid hu
    clear hv hm hb ht hu
    go_enter Tryd.func4, Tryd.ntmps4
    go_wp2_with fail
    (go_at_call 13; refine (wint_is _ _ _ _ _ HV.out HM.out _ hs HG.out HE.out).mono ?_; rintro e w1 ⟨rfl, hb1⟩)
    have G1 := Lib.hid (HG.out.below hb1)
    have O1 : Hid (Ow w w1) := hb1
    clear hb1
    go_wp2_with fail
    (go_at_call 14; refine (rint_is _ _ _ _ _ HV.out HM.out _ hs HE.out).mono ?_; rintro e w2 ⟨rfl, hb2⟩)
    have G2 := Lib.hid (G1.out.below hb2)
    have O2 := Lib.hid (O1.out.then hb2)
    clear hb2
    go_wp2_with fail
    (go_at_call 15; refine (wname_is _ _ HB.out _ hs).mono ?_; rintro e w3 ⟨rfl, hb3⟩)
    have G3 := Lib.hid (G2.out.below hb3)
    have O3 := Lib.hid (O2.out.then hb3)
    clear hb3
    go_wp2_with fail
    (go_at_call 16; refine (rname_is _ _ HB.out _ hs).mono ?_; rintro e w4 ⟨rfl, hb4⟩)
    have G4 := Lib.hid (G3.out.below hb4)
    have O4 := Lib.hid (O3.out.then hb4)
    clear hb4
    go_wp2_with fail
    (go_at_call 17; refine (wdig_is _ _ HT.out _ G4.out HL.out).mono ?_; rintro e w5 ⟨rfl, hb5⟩)
    have G5 := Lib.hid (G4.out.below hb5)
    have O5 := Lib.hid (O4.out.then hb5)
    clear hb5
    go_wp2_with fail
    (go_at_call 18; refine (rdig_is _ _ HT.out _ HL.out).mono ?_; rintro e w6 ⟨rfl, hb6⟩)
    have G6 := Lib.hid (G5.out.below hb6)
    have O6 := Lib.hid (O5.out.then hb6)
    clear hb6
    go_wp2_with fail
    (go_at_call 17; refine (wdig_is _ _ HU.out _ G6.out HH.out).mono ?_; rintro e w7 ⟨rfl, hb7⟩)
    have G7 := Lib.hid (G6.out.below hb7)
    have O7 := Lib.hid (O6.out.then hb7)
    clear hb7
    go_wp2_with fail
    (go_at_call 18; refine (rdig_is _ _ HU.out _ HH.out).mono ?_; rintro e w8 ⟨rfl, hb8⟩)
    have G8 := Lib.hid (G7.out.below hb8)
    have O8 := Lib.hid (O7.out.then hb8)
    clear hb8
    go_wp2_with fail
    (go_at_call 9; refine (shown_any _ G8.out).mono ?_; rintro e w9 ⟨rfl, hb9⟩)
    go_wp2_with fail
    go_ret
    exact ⟨rfl, O8.out.then hb9⟩
end Go.Proofs.YtkbbkolanbgajaaDoor

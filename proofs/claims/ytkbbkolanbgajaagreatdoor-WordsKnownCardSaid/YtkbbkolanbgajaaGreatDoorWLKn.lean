/- The law WordsKnown, walked (printed by gen/wlkn.py). -/
import Derived.Test.YtkbbkolanbgajaaGreatDoorWParW
import Derived.Test.YtkbbkolanbgajaaGreatDoorWLSpl
namespace Go.Proofs.YtkbbkolanbgajaaGreatDoor
open Go.RowKit
open Wd (plE plS)

theorem pl_is (s : ByteArray) (m : Int) (hm : plE s.data.toList = m) (w : World) (hs : s.size ≤ 9000) (hg : Gl w) :
    Calls Tryz.prog 11 #[.string s] w fun e w' => ∃ v, e = .returned (.tuple #[v, .int .i64 m]) ∧ IntsA w' v (plS s.data.toList) ∧ Ow w w' := by
  subst hm
  exact ParseList_any s w hs hg
theorem split_e (w : World) (hg : Gl w) : Calls Tryz.prog 9 #[.string ⟨#[]⟩] w fun e w' => (∃ a c, e = .returned (.tuple #[.slice a 0 c, .int .i64 0])) ∧ Ow w w' := by
  refine (split_is ⟨#[]⟩ 0 (by decide +kernel) w (by decide) hg).mono fun e w' ⟨v, h1, h2, h3⟩ => ⟨?_, h3⟩
  have e0 : Wd.splitS (⟨#[]⟩ : ByteArray).data.toList = [] := by decide +kernel
  rw [e0] at h2
  rcases h2 with ⟨rfl, _⟩ | ⟨g, off, cap, rfl, _⟩
  · exact ⟨_, _, h1⟩
  · exact ⟨_, _, h1⟩
set_option maxHeartbeats 1000000 in
theorem list_e (a : Option Addr) (cap : Nat) (w : World) : Calls Tryz.prog 10 #[.slice a 0 cap] w fun e w' => e = .returned (.tuple #[.string ⟨#[45]⟩, .int .i64 0]) ∧ Ow w w' := by
  go_enter Tryz.func10, Tryz.ntmps10
  go_wp2
  go_loop [4, 6] (fun t i => i = .int .i64 0 ∧ t = .int .i64 0) (fun _ _ => 0)
  case atStart => exact ⟨rfl, rfl⟩
  case round =>
    obtain ⟨rfl, rfl⟩ := hrel
    go_wp2
    go_loop [8] (fun i => i = .int .i64 0) (fun _ => 0)
    case atStart => rfl
    case round =>
      obtain rfl := hrel
      go_wp2
      go_ret2
      exact ⟨rfl, (Ow.refl _).alloc _⟩
theorem list_a (v : Value) (l : List Int) (t : ByteArray) (m : Int) (ht : t.data.toList = Wd.listS l) (hm : Wd.listE l = m) (w : World) (hi : IntsA w v l) (hlen : l.length ≤ 100000) (hg : Gl w) :
    Calls Tryz.prog 10 #[v] w fun e w' => e = .returned (.tuple #[.string t, .int .i64 m]) ∧ Ow w w' := by
  rcases hi with ⟨rfl, a, cap, rfl⟩ | ⟨_, g, off, cap, rfl, hi⟩
  · refine (list_e a cap w).mono fun e w' ⟨h1, h2⟩ => ⟨?_, h2⟩
    have e1 : (⟨#[45]⟩ : ByteArray) = t := ba_ext (by rw [ht]; rfl)
    have e2 : m = 0 := hm.symm
    rw [h1, e1, e2]
  · refine (List_any g off cap l w hi hg hlen).mono fun e w' ⟨h1, h2⟩ => ⟨?_, h2⟩
    rw [h1, ← ht, ba_mk, hm]
set_option maxRecDepth 100000 in
set_option maxHeartbeats 4000000 in
theorem known_walk (w : World) (hg : Gl w) :
    Calls Tryz.prog 3 #[] w fun e w' => e = .returned (.bool true) ∧ Ow w w' := by
  have HG := Lib.hid hg
  have O0 : Hid (Ow w w) := Ow.refl _
  have G0 : Hid (Gl w) := hg
  clear hg
  go_enter Tryz.func3, Tryz.ntmps3
  go_wp2_with fail
  (go_at_call 7; refine (wint_is ⟨#[48, 48, 55]⟩ 0 10 0 6 (by decide +kernel) (by decide +kernel) _ (by decide) G0.out ⟨by decide, by decide⟩).mono ?_; rintro e w1 ⟨rfl, hb1⟩)
  have O1 := Lib.hid (O0.out.then hb1)
  have G1 := Lib.hid (HG.out.below O1.out)
  clear hb1
  go_wp2_with fail
  (go_at_call 7; refine (wint_is ⟨#[45, 48]⟩ 0 10 0 6 (by decide +kernel) (by decide +kernel) _ (by decide) G1.out ⟨by decide, by decide⟩).mono ?_; rintro e w2 ⟨rfl, hb2⟩)
  have O2 := Lib.hid (O1.out.then hb2)
  have G2 := Lib.hid (HG.out.below O2.out)
  clear hb2
  go_wp2_with fail
  (go_at_call 7; refine (wint_is ⟨#[49, 50]⟩ 0 10 0 7 (by decide +kernel) (by decide +kernel) _ (by decide) G2.out ⟨by decide, by decide⟩).mono ?_; rintro e w3 ⟨rfl, hb3⟩)
  have O3 := Lib.hid (O2.out.then hb3)
  have G3 := Lib.hid (HG.out.below O3.out)
  clear hb3
  go_wp2_with fail
  (go_at_call 8; refine (wu_is ⟨#[34, 92, 120, 52, 49, 34]⟩ ⟨#[]⟩ 6 (by decide +kernel) (by decide +kernel) _ (by decide) G3.out).mono ?_; rintro e w4 ⟨rfl, hb4⟩)
  have O4 := Lib.hid (O3.out.then hb4)
  have G4 := Lib.hid (HG.out.below O4.out)
  clear hb4
  go_wp2_with fail
  (go_at_call 8; refine (wu_is ⟨#[34, 92, 120, 55, 70, 34]⟩ ⟨#[]⟩ 6 (by decide +kernel) (by decide +kernel) _ (by decide) G4.out).mono ?_; rintro e w5 ⟨rfl, hb5⟩)
  have O5 := Lib.hid (O4.out.then hb5)
  have G5 := Lib.hid (HG.out.below O5.out)
  clear hb5
  go_wp2_with fail
  (go_at_call 8; refine (wu_is ⟨#[34, 97]⟩ ⟨#[]⟩ 6 (by decide +kernel) (by decide +kernel) _ (by decide) G5.out).mono ?_; rintro e w6 ⟨rfl, hb6⟩)
  have O6 := Lib.hid (O5.out.then hb6)
  have G6 := Lib.hid (HG.out.below O6.out)
  clear hb6
  go_wp2_with fail
  (go_at_call 9; refine (split_is ⟨#[97, 32, 32, 98]⟩ 6 (by decide +kernel) _ (by decide) G6.out).mono ?_; rintro e w7 ⟨v7, rfl, _, hb7⟩)
  have O7 := Lib.hid (O6.out.then hb7)
  have G7 := Lib.hid (HG.out.below O7.out)
  clear hb7
  go_wp2_with fail
  (go_at_call 9; refine (split_e _ G7.out).mono ?_; rintro e w8 ⟨⟨a8, c8, rfl⟩, hb8⟩)
  have O8 := Lib.hid (O7.out.then hb8)
  have G8 := Lib.hid (HG.out.below O8.out)
  clear hb8
  go_wp2_with fail
  (go_at_call 10; refine (list_e none 0 _).mono ?_; rintro e w9 ⟨rfl, hb9⟩)
  have O9 := Lib.hid (O8.out.then hb9)
  have G9 := Lib.hid (HG.out.below O9.out)
  clear hb9
  go_wp2_with fail
  (go_at_call 11; refine (pl_is ⟨#[49, 45, 51, 44, 52]⟩ 6 (by decide +kernel) _ (by decide) G9.out).mono ?_; rintro e w10 ⟨v10, rfl, _, hb10⟩)
  have O10 := Lib.hid (O9.out.then hb10)
  have G10 := Lib.hid (HG.out.below O10.out)
  clear hb10
  go_wp2_with fail
  (go_at_call 11; refine (pl_is ⟨#[51, 45, 51]⟩ 6 (by decide +kernel) _ (by decide) G10.out).mono ?_; rintro e w11 ⟨v11, rfl, _, hb11⟩)
  have O11 := Lib.hid (O10.out.then hb11)
  have G11 := Lib.hid (HG.out.below O11.out)
  clear hb11
  go_wp2_with fail
  (go_at_call 11; refine (pl_is ⟨#[50, 44, 49]⟩ 6 (by decide +kernel) _ (by decide) G11.out).mono ?_; rintro e w12 ⟨v12, rfl, _, hb12⟩)
  have O12 := Lib.hid (O11.out.then hb12)
  have G12 := Lib.hid (HG.out.below O12.out)
  clear hb12
  go_wp2_with fail
  (go_at_call 11; refine (pl_is ⟨#[48, 45, 54, 48, 48]⟩ 3 (by decide +kernel) _ (by decide) G12.out).mono ?_; rintro e w13 ⟨v13, rfl, _, hb13⟩)
  have O13 := Lib.hid (O12.out.then hb13)
  have G13 := Lib.hid (HG.out.below O13.out)
  clear hb13
  go_wp2_with fail
  (go_at_call 12; refine (wname_is ⟨#[87, 101, 98]⟩ false (by decide +kernel) _ (by decide)).mono ?_; rintro e w14 ⟨rfl, hb14⟩)
  have O14 := Lib.hid (O13.out.then hb14)
  have G14 := Lib.hid (HG.out.below O14.out)
  clear hb14
  go_wp2_with fail
  (go_at_call 12; refine (wname_is ⟨#[97, 97, 97, 97, 97, 97, 97, 97, 97, 97, 97, 97, 97, 97, 97, 97, 97]⟩ false (by decide +kernel) _ (by decide)).mono ?_; rintro e w15 ⟨rfl, hb15⟩)
  have O15 := Lib.hid (O14.out.then hb15)
  have G15 := Lib.hid (HG.out.below O15.out)
  clear hb15
  go_wp2_with fail
  (go_at_call 13; refine (shown_any _ G15.out).mono ?_; rintro e w16 ⟨rfl, hb16⟩)
  have O16 := Lib.hid (O15.out.then hb16)
  have G16 := Lib.hid (HG.out.below O16.out)
  clear hb16
  go_wp2_with fail
  go_ret
  exact ⟨rfl, O16.out⟩
end Go.Proofs.YtkbbkolanbgajaaGreatDoor

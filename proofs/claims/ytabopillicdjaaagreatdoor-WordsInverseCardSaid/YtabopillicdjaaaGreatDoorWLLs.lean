/- The law WordsLists, walked. -/
import Derived.Test.YtabopillicdjaaaGreatDoorWRParW
import Derived.Test.YtabopillicdjaaaGreatDoorQ6
namespace Go.Proofs.YtabopillicdjaaaGreatDoor
open Go.RowKit
open Wd (plE plS listE listS)

theorem wpl_is (s : ByteArray) (m : Int) (hm : plE s.data.toList = m) (L : List Int) (hL : plS s.data.toList = L) (w : World) (hs : s.size ≤ 9000) (hg : Gl w) :
    Calls Tryz.prog 13 #[.string s] w fun e w' => ∃ v, e = .returned (.tuple #[v, .int .i64 m]) ∧ IntsA w' v L ∧ Ow w w' := by
  subst hm hL
  exact ParseList_any s w hs hg
theorem plS_len (s : List UInt8) : (plS s).length ≤ 500 := by
  by_cases hs : s = [45]
  · unfold Wd.plS; rw [if_pos hs]; simp
  · by_cases h0 : plE s = 0
    · have := (Wd.listE_zero.1 (Wd.parse_list h0).1).1
      exact this
    · have : plS s = [] := by
        unfold Wd.plS; rw [if_neg hs]
        split
        · rfl
        · rw [if_neg h0]
      rw [this]; simp
set_option maxRecDepth 100000 in
set_option maxHeartbeats 2000000 in
theorem lists_true (va vb : Value) (L : List Int) (w : World) (ha : IntsA w va L) (hb : IntsA w vb L) (hn : L.length ≤ 100000) :
    Calls Tryz.prog 14 #[va, vb] w fun e w' => e = .returned (.bool true) ∧ Ow w w' := by
  rcases ha with ⟨h0, a, cap, rfl⟩ | ⟨hne, g, off, cap, rfl, hia⟩
  · rcases hb with ⟨_, a', cap', rfl⟩ | ⟨hne', _⟩
    · clear h0
      go_enter Tryz.func14, Tryz.ntmps14
      go_wp2
      go_loopw [5] (fun i wr => i = .int .i64 0 ∧ w = wr) (fun _ _ => 0)
      case atStart => exact ⟨rfl, rfl⟩
      case round =>
        obtain ⟨rfl, rfl⟩ := hrel
        go_wp2
        go_ret
        exact ⟨rfl, Ow.refl _⟩
    · exact absurd h0 hne'
  · rcases hb with ⟨h0, _⟩ | ⟨_, g', off', cap', rfl, hib⟩
    · exact absurd h0 hne
    · have HA := Lib.hid hia
      have HB := Lib.hid hib
      clear hia hib hne
      go_enter Tryz.func14, Tryz.ntmps14
      go_wp2
      go_loopw [5] (fun i wr => ∃ k : Nat, k ≤ L.length ∧ i = .int .i64 k ∧ Ow w wr) (fun i _ => L.length - (intOf i).toNat)
      case atStart => exact ⟨0, by omega, rfl, Ow.refl _⟩
      case round =>
        obtain ⟨k, hk, rfl, hw⟩ := hrel
        have HW := Lib.hid hw
        clear hw
        by_cases hlt : k < L.length
        · obtain ⟨x, hx⟩ : ∃ x, L[k]? = some x := ⟨L[k], List.getElem?_eq_getElem hlt⟩
          have c0 := (HW.out.cell (p := ⟨g, off + k, none⟩) HA.out.1).trans (HA.out.2 k _ hx)
          have c1 := (HW.out.cell (p := ⟨g', off' + k, none⟩) HB.out.1).trans (HB.out.2 k _ hx)
          have el : decide (k < L.length) = true := by simpa using hlt
          have hlt2 : (k : Int) < (L.length : Int) := by omega
          clear hx
          go_wp2
          go_quiet (fail)
          go_wp2
          go_roundw
          case rel => exact ⟨k + 1, by omega, by go_num, HW.out.drewN _⟩
          case measure => simp [intOf]; omega
        · have el : decide (k < L.length) = false := by simpa using hlt
          go_wp2
          go_ret
          exact ⟨rfl, HW.out⟩
end Go.Proofs.YtabopillicdjaaaGreatDoor

/- The law WordsLists, walked. -/
import Derived.Test.YtkbbkolanbgajaaGreatDoorWRParW
import Derived.Test.YtkbbkolanbgajaaGreatDoorWRLs
import Derived.Test.YtkbbkolanbgajaaGreatDoorWLKn
namespace Go.Proofs.YtkbbkolanbgajaaGreatDoor
open Go.RowKit
open Wd (plE plS listE listS)

theorem rlist_is (v : Value) (l : List Int) (t : ByteArray) (m : Int) (ht : t.data.toList = listS l) (hm : listE l = m) (w : World) (hi : IntsA w v l) (hlen : l.length ≤ 100000) :
    Calls Tryz.prog 25 #[v] w fun e w' => e = .returned (.tuple #[.string t, .int .i64 m]) ∧ Ow w w' := by
  have := rList_any v l w hi hlen
  unfold LPost at this
  rwa [← ht, ba_mk, hm] at this
theorem wpl_is (s : ByteArray) (m : Int) (hm : plE s.data.toList = m) (L : List Int) (hL : plS s.data.toList = L) (w : World) (hs : s.size ≤ 9000) (hg : Gl w) :
    Calls Tryz.prog 11 #[.string s] w fun e w' => ∃ v, e = .returned (.tuple #[v, .int .i64 m]) ∧ IntsA w' v L ∧ Ow w w' := by
  subst hm hL
  exact ParseList_any s w hs hg
theorem rpl_is (s : ByteArray) (m : Int) (hm : plE s.data.toList = m) (L : List Int) (hL : plS s.data.toList = L) (w : World) (hs : s.size ≤ 9000) :
    Calls Tryz.prog 26 #[.string s] w fun e w' => ∃ v, e = .returned (.tuple #[v, .int .i64 m]) ∧ IntsA w' v L ∧ Ow w w' := by
  subst hm hL
  exact rParseList_any s w hs
theorem plS_len (s : List UInt8) : (plS s).length ≤ 500 := by
  by_cases hs : s = [45]
  · unfold Wd.plS; rw [if_pos hs]; simp
  · by_cases h0 : plE s = 0
    · have := (Wd.listE_zero.1 (Wd.parse_list h0).1).1
      exact this
    · have : plS s = [] := by
        unfold Wd.plS; rw [if_neg hs]
        split
        · rfl
        · rw [if_neg h0]
      rw [this]; simp
set_option maxRecDepth 100000 in
set_option maxHeartbeats 2000000 in
theorem lists_true (va vb : Value) (L : List Int) (w : World) (ha : IntsA w va L) (hb : IntsA w vb L) (hn : L.length ≤ 100000) :
    Calls Tryz.prog 18 #[va, vb] w fun e w' => e = .returned (.bool true) ∧ Ow w w' := by
  rcases ha with ⟨h0, a, cap, rfl⟩ | ⟨hne, g, off, cap, rfl, hia⟩
  · rcases hb with ⟨_, a', cap', rfl⟩ | ⟨hne', _⟩
    · clear h0
      go_enter Tryz.func18, Tryz.ntmps18
      go_wp2
      go_loopw [5] (fun i wr => i = .int .i64 0 ∧ w = wr) (fun _ _ => 0)
      case atStart => exact ⟨rfl, rfl⟩
      case round =>
        obtain ⟨rfl, rfl⟩ := hrel
        go_wp2
        go_ret
        exact ⟨rfl, Ow.refl _⟩
    · exact absurd h0 hne'
  · rcases hb with ⟨h0, _⟩ | ⟨_, g', off', cap', rfl, hib⟩
    · exact absurd h0 hne
    · have HA := Lib.hid hia
      have HB := Lib.hid hib
      clear hia hib hne
      go_enter Tryz.func18, Tryz.ntmps18
      go_wp2
      go_loopw [5] (fun i wr => ∃ k : Nat, k ≤ L.length ∧ i = .int .i64 k ∧ Ow w wr) (fun i _ => L.length - (intOf i).toNat)
      case atStart => exact ⟨0, by omega, rfl, Ow.refl _⟩
      case round =>
        obtain ⟨k, hk, rfl, hw⟩ := hrel
        have HW := Lib.hid hw
        clear hw
        by_cases hlt : k < L.length
        · obtain ⟨x, hx⟩ : ∃ x, L[k]? = some x := ⟨L[k], List.getElem?_eq_getElem hlt⟩
          have c0 := (HW.out.cell (p := ⟨g, off + k, none⟩) HA.out.1).trans (HA.out.2 k _ hx)
          have c1 := (HW.out.cell (p := ⟨g', off' + k, none⟩) HB.out.1).trans (HB.out.2 k _ hx)
          have el : decide (k < L.length) = true := by simpa using hlt
          have hlt2 : (k : Int) < (L.length : Int) := by omega
          clear hx
          go_wp2
          go_quiet (fail)
          go_wp2
          go_roundw
          case rel => exact ⟨k + 1, by omega, by go_num, HW.out.drewN _⟩
          case measure => simp [intOf]; omega
        · have el : decide (k < L.length) = false := by simpa using hlt
          go_wp2
          go_ret
          exact ⟨rfl, HW.out⟩
set_option maxRecDepth 100000 in
set_option maxHeartbeats 4000000 in
theorem lists_walk (v : Value) (l : List Int) (s : ByteArray) (w : World) (hi : IntsA w v l) (hz : l.length ≤ maxLen) (_hw : ∀ n ∈ l, (Lit.int .i64 n).wf = true) (hz2 : s.size ≤ maxLen) (hg : Gl w) :
    Calls Tryz.prog 6 #[v, .string s] w fun e w' => e = .returned (.bool true) ∧ Ow w w' := by
  unfold maxLen at hz hz2
  have HG := Lib.hid hg
  have HI := Lib.hid hi
  clear hg
  obtain ⟨sa, sc, hv⟩ : ∃ sa sc, v = .slice sa l.length sc := by
    rcases hi with ⟨rfl, a, cap, rfl⟩ | ⟨_, g, off, cap, rfl, _⟩
    · exact ⟨_, _, rfl⟩
    · exact ⟨_, _, rfl⟩
  subst hv
  clear hi
  by_cases h1 : 510 < l.length
  · have e1 : (510 : Int) < (l.length : Int) := by omega
    clear h1
    go_enter Tryz.func6, Tryz.ntmps6
    go_wp2_with (go_at_call 13; refine (shown_any _ HG.out).mono ?_; rintro e w1 ⟨rfl, hb1⟩)
    go_ret
    exact ⟨rfl, hb1⟩
  · have e1 : decide ((510 : Int) < (l.length : Int)) = false := decide_eq_false (by omega)
    have hl : l.length ≤ 510 := by omega
    clear h1
    by_cases h2 : 2000 < s.size
    · have e2 : (2000 : Int) < (s.size : Int) := by omega
      clear h2
      go_enter Tryz.func6, Tryz.ntmps6
      go_wp2_with (go_at_call 13; refine (shown_any _ HG.out).mono ?_; rintro e w1 ⟨rfl, hb1⟩)
      go_ret
      exact ⟨rfl, hb1⟩
    · have e2 : decide ((2000 : Int) < (s.size : Int)) = false := decide_eq_false (by omega)
      have hs : s.size ≤ 9000 := by omega
      obtain ⟨m, hm⟩ : ∃ m, listE l = m := ⟨_, rfl⟩
      obtain ⟨t, ht⟩ : ∃ t : ByteArray, t.data.toList = listS l := ⟨⟨(listS l).toArray⟩, rfl⟩
      obtain ⟨p, hp⟩ : ∃ m, plE s.data.toList = m := ⟨_, rfl⟩
      obtain ⟨L, hL⟩ : ∃ m, plS s.data.toList = m := ⟨_, rfl⟩
      have hLn : L.length ≤ 100000 := by have := plS_len s.data.toList; rw [hL] at this; omega
      have HM := Lib.hid hm
      have HT := Lib.hid ht
      have HP := Lib.hid hp
      have HL := Lib.hid hL
      clear hm ht hp hL h2
      go_enter Tryz.func6, Tryz.ntmps6
      go_wp2_with fail
      (go_at_call 10; refine (list_a _ l t m HT.out HM.out _ HI.out (by omega) HG.out).mono ?_; rintro e w1 ⟨rfl, hb1⟩)
      have O1 : Hid (Ow w w1) := hb1
      clear hb1
      go_wp2_with fail
      (go_at_call 25; refine (rlist_is _ l t m HT.out HM.out _ (HI.out.then O1.out) (by omega)).mono ?_; rintro e w2 ⟨rfl, hb2⟩)
      have O2 := Lib.hid (O1.out.then hb2)
      clear hb2
      go_wp2_with fail
      (go_at_call 11; refine (wpl_is s p HP.out L HL.out _ hs (HG.out.below O2.out)).mono ?_; rintro e w3 ⟨va, rfl, hva, hb3⟩)
      have O3 := Lib.hid (O2.out.then hb3)
      have VA := Lib.hid hva
      clear hb3 hva
      go_wp2_with fail
      (go_at_call 26; refine (rpl_is s p HP.out L HL.out _ hs).mono ?_; rintro e w4 ⟨vb, rfl, hvb, hb4⟩)
      have VA4 := Lib.hid (VA.out.then hb4)
      have VB := Lib.hid hvb
      have O4 := Lib.hid (O3.out.then hb4)
      clear hb4 hvb
      go_wp2_with fail
      (go_at_call 18; refine (lists_true _ _ L _ VA4.out VB.out hLn).mono ?_; rintro e w5 ⟨rfl, hb5⟩)
      have O5 := Lib.hid (O4.out.then hb5)
      clear hb5
      go_wp2_with fail
      (go_at_call 13; refine (shown_any _ (HG.out.below O5.out)).mono ?_; rintro e w6 ⟨rfl, hb6⟩)
      go_wp2_with fail
      go_ret
      exact ⟨rfl, O5.out.then hb6⟩
end Go.Proofs.YtkbbkolanbgajaaGreatDoor

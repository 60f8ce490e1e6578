/- The reference of chapter 1: lower, digit, Name. -/
import Derived.Test.YtkbbkolanbgajaaDoorWBare
namespace Go.Proofs.YtkbbkolanbgajaaDoor
open Go.RowKit

def lowB (n : Nat) : Bool := decide (97 ≤ n) && decide (n ≤ 122)
def digB (n : Nat) : Bool := decide (48 ≤ n) && decide (n ≤ 57)
theorem nameC_at (c : UInt8) : nameC c = (lowB c.toNat || digB c.toNat || c.toNat == 45) := by
  have := Wd.all256 (p := fun c => nameC c == (lowB c.toNat || digB c.toNat || c.toNat == 45)) (by decide +kernel) c
  simpa using this
theorem lower_is (n : Nat) (b : Bool) (hb : lowB n = b) (w : World) :
    Calls Tryd.prog 35 #[.int .u8 (n : Int)] w fun e w' => e = .returned (.bool b) ∧ w = w' := by
  subst hb
  by_cases h1 : 97 ≤ n
  · by_cases h2 : n ≤ 122
    · go_enter Tryd.func35, Tryd.ntmps35
      go_wp2
      go_ret
      exact ⟨retB (by simp [lowB, h1, h2] <;> omega), rfl⟩
    · go_enter Tryd.func35, Tryd.ntmps35
      go_wp2
      go_ret
      exact ⟨retB (by simp [lowB, h1, h2] <;> omega), rfl⟩
  · go_enter Tryd.func35, Tryd.ntmps35
    go_wp2
    go_ret
    exact ⟨retB (by simp [lowB, h1]), rfl⟩
theorem digit_is (n : Nat) (b : Bool) (hb : digB n = b) (w : World) :
    Calls Tryd.prog 36 #[.int .u8 (n : Int)] w fun e w' => e = .returned (.bool b) ∧ w = w' := by
  subst hb
  by_cases h1 : 48 ≤ n
  · by_cases h2 : n ≤ 57
    · go_enter Tryd.func36, Tryd.ntmps36
      go_wp2
      go_ret
      exact ⟨retB (by simp [digB, h1, h2] <;> omega), rfl⟩
    · go_enter Tryd.func36, Tryd.ntmps36
      go_wp2
      go_ret
      exact ⟨retB (by simp [digB, h1, h2] <;> omega), rfl⟩
  · go_enter Tryd.func36, Tryd.ntmps36
    go_wp2
    go_ret
    exact ⟨retB (by simp [digB, h1]), rfl⟩

set_option maxRecDepth 100000 in
set_option maxHeartbeats 2000000 in
theorem rname_any (s : ByteArray) (w : World) (hs : s.size ≤ 9000) :
    Calls Tryd.prog 16 #[.string s] w (NPost s w) := by
  by_cases hz : s.size = 0
  · have HF : Hid (nameB s.data.toList = false) := by rw [Hid, ba_nil hz]; rfl
    have e1 : ((s.size : Int) < 1) := by omega
    clear hz
    go_enter Tryd.func16, Tryd.ntmps16
    go_wp2
    go_ret
    unfold NPost
    rw [HF.out]
    exact ⟨rfl, Below.refl _ _⟩
  · have h0 : 0 < s.size := by omega
    have e1 : decide ((s.size : Int) < 1) = false := decide_eq_false (by omega)
    have HS : Hid (s.data.toList = s[0] :: s.data.toList.drop 1) := ba_cons s h0
    obtain ⟨n, hn⟩ : ∃ n : Nat, s[0].toNat = n := ⟨_, rfl⟩
    have HN := Lib.hid hn
    have HH : Hid (nameB s.data.toList = (decide (s.size ≤ 16) && lowB n && s.data.toList.all nameC)) := by
      have e : s.data.toList.head? = some s[0] := by rw [HS.out]; rfl
      have e3 : s.data.toList.isEmpty = false := by rw [HS.out]; rfl
      simp only [Hid, nameB, e, low_at, HN.out, e3, ba_len, Bool.not_false, Bool.true_and, lowB]
    clear hz
    by_cases h16 : s.size ≤ 16
    · have e2 : decide ((16 : Int) < (s.size : Int)) = false := decide_eq_false (by omega)
      cases hlo : lowB n with
      | false =>
        have HLo := Lib.hid hlo
        clear hlo
        go_enter Tryd.func16, Tryd.ntmps16
        go_wp2_with (go_at_call 35; refine (lower_is _ _ HLo.out _).mono ?_; rintro e w2 ⟨rfl, rfl⟩)
        go_ret
        unfold NPost
        rw [HH.out, HLo.out]
        exact ⟨retB (by simp), Below.refl _ _⟩
      | true =>
        have HLo := Lib.hid hlo
        clear hlo
        have HH2 : Hid (nameB s.data.toList = s.data.toList.all nameC) := by rw [Hid, HH.out, HLo.out, decide_eq_true h16]; rfl
        go_enter Tryd.func16, Tryd.ntmps16
        go_wp2_with (go_at_call 35; refine (lower_is _ _ HLo.out _).mono ?_; rintro e w2 ⟨rfl, rfl⟩)
        clear hn HN
        go_loopw [3] (fun i wr => ∃ k : Nat, k ≤ s.size ∧ i = .int .i64 k ∧ (s.data.toList.take k).all nameC = true ∧ w = wr) (fun i _ => s.size - (intOf i).toNat)
        case atStart => exact ⟨0, by omega, rfl, by simp, rfl⟩
        case round =>
          obtain ⟨k, hk, rfl, ha, rfl⟩ := hrel
          have HA := Lib.hid ha
          clear ha
          by_cases hlt : k < s.size
          · obtain ⟨m, hm⟩ : ∃ m : Nat, s[k].toNat = m := ⟨_, rfl⟩
            have HM := Lib.hid hm
            have el : decide (k < s.size) = true := by simpa using hlt
            have HC : Hid (nameC s[k] = (lowB m || digB m || m == 45)) := by rw [Hid, nameC_at, hm]
            obtain ⟨b1, hb1⟩ : ∃ b, lowB m = b := ⟨_, rfl⟩
            obtain ⟨b2, hb2⟩ : ∃ b, digB m = b := ⟨_, rfl⟩
            have B1 := Lib.hid hb1
            have B2 := Lib.hid hb2
            clear hb1 hb2
            cases b1 with
            | true =>
              have HF : Hid ((s.data.toList.take (k + 1)).all nameC = true) := take_all hlt HA.out (by rw [HC.out, B1.out]; rfl)
              go_wp2_with (go_at_call 35; refine (lower_is _ _ B1.out _).mono ?_; rintro e w2 ⟨rfl, rfl⟩)
              go_roundw
              case rel => exact ⟨k + 1, by omega, by go_num, HF.out, by first | rfl | trivial⟩
              case measure => simp [intOf]; omega
            | false =>
              cases b2 with
              | true =>
                have HF : Hid ((s.data.toList.take (k + 1)).all nameC = true) := take_all hlt HA.out (by rw [HC.out, B1.out, B2.out]; rfl)
                go_wp2_with (first
                  | (go_at_call 35; refine (lower_is _ _ B1.out _).mono ?_; rintro e w2 ⟨rfl, rfl⟩)
                  | (go_at_call 36; refine (digit_is _ _ B2.out _).mono ?_; rintro e w2 ⟨rfl, rfl⟩))
                go_roundw
                case rel => exact ⟨k + 1, by omega, by go_num, HF.out, by first | rfl | trivial⟩
                case measure => simp [intOf]; omega
              | false =>
                by_cases h45 : m = 45
                · have HF : Hid ((s.data.toList.take (k + 1)).all nameC = true) := take_all hlt HA.out (by rw [HC.out, B1.out, B2.out, h45]; rfl)
                  subst h45
                  go_wp2_with (first
                    | (go_at_call 35; refine (lower_is _ _ B1.out _).mono ?_; rintro e w2 ⟨rfl, rfl⟩)
                    | (go_at_call 36; refine (digit_is _ _ B2.out _).mono ?_; rintro e w2 ⟨rfl, rfl⟩))
                  go_roundw
                  case rel => exact ⟨k + 1, by omega, by go_num, HF.out, by first | rfl | trivial⟩
                  case measure => simp [intOf]; omega
                · have e45 : ((m : Int) != 45) = true := by rw [bne_iff_ne]; omega
                  have HF : Hid (s.data.toList.all nameC = false) := by
                    rw [Hid, List.all_eq_false]
                    exact ⟨s[k], List.mem_of_getElem? (ba_at s k hlt), by rw [HC.out, B1.out, B2.out]; simpa using h45⟩
                  clear h45
                  go_wp2_with (first
                    | (go_at_call 35; refine (lower_is _ _ B1.out _).mono ?_; rintro e w2 ⟨rfl, rfl⟩)
                    | (go_at_call 36; refine (digit_is _ _ B2.out _).mono ?_; rintro e w2 ⟨rfl, rfl⟩))
                  go_ret
                  unfold NPost
                  rw [HH2.out, HF.out]
                  exact ⟨rfl, Below.refl _ _⟩
          · have el : decide (k < s.size) = false := by simpa using hlt
            have HF : Hid (s.data.toList.all nameC = true) := by
              have := HA.out
              rwa [List.take_of_length_le (by rw [ba_len]; omega)] at this
            go_wp2
            go_ret
            unfold NPost
            rw [HH2.out, HF.out]
            exact ⟨rfl, Below.refl _ _⟩
    · have e2 : (16 : Int) < (s.size : Int) := by omega
      go_enter Tryd.func16, Tryd.ntmps16
      go_wp2
      go_ret
      unfold NPost
      rw [HH.out, decide_eq_false h16]
      exact ⟨rfl, Below.refl _ _⟩
end Go.Proofs.YtkbbkolanbgajaaDoor

/- The reference of chapter 1: decimal (printed by gen/wrdec.py). -/
import Derived.Test.YtaojogaakhidhaaGreatDoorQ6
namespace Go.Proofs.YtaojogaakhidhaaGreatDoor
open Go.RowKit
open Wd (decimalB unsign)

/-- A decimal form without a sign. -/
def numB (l : List UInt8) : Bool := !l.isEmpty && l.all Wd.digB && (l.head? != some 48 || l.length == 1)
theorem dig_at (c : UInt8) : Wd.digB c = digB c.toNat := by
  have := Wd.all256 (p := fun c => Wd.digB c == digB c.toNat) (by decide +kernel) c
  simpa using this
theorem num_app {l : List UInt8} (h : l.length = 1) : numB l = l.all Wd.digB := by
  match l, h with
  | [a], _ => simp [numB]
theorem num_more {l : List UInt8} (h : 1 < l.length) (h2 : l.head? ≠ some 48) : numB l = l.all Wd.digB := by
  have e : (l.head? != some 48) = true := by rw [bne_iff_ne]; exact h2
  match l, h, e with
  | a :: b :: r, _, e => rw [numB, e]; simp
theorem num_zero {l : List UInt8} (h : 1 < l.length) (h2 : l.head? = some 48) : numB l = false := by
  match l, h, h2 with
  | a :: b :: r, _, h2 => simp at h2; simp [numB, h2]
theorem dec_strip {l : List UInt8} {r : List UInt8} (h : l = 45 :: r) (h0 : r.head? ≠ some 48) : decimalB l = numB r := by
  subst h
  simp only [decimalB, Wd.unsign_minus, numB]
  have e : (r.head? != some 48) = true := by rw [bne_iff_ne]; exact h0
  rw [e]; simp
theorem dec_min0 {l r : List UInt8} (h : l = 45 :: 48 :: r) : decimalB l = numB l := by
  subst h
  have e : numB (45 :: 48 :: r) = false := by simp [numB, Wd.digB]
  rw [e]
  simp [decimalB, Wd.unsign_minus]
theorem dec_one {l : List UInt8} (h : l.length = 1) : decimalB l = numB l := by
  match l, h with
  | [a], _ =>
    rw [num_app rfl]
    have := Wd.all256 (p := fun a => decimalB [a] == [a].all Wd.digB) (by decide +kernel) a
    simpa using this
theorem dec_more {l : List UInt8} (h : l.head? ≠ some 45) (h1 : 1 < l.length) : decimalB l = numB l := by
  simp only [decimalB, numB, Wd.unsign_other h]
  match l, h1 with
  | a :: b :: r, _ => simp

def RdPost (s : ByteArray) (w : World) (e : Ending) (w' : World) : Prop := e = .returned (.bool (decimalB s.data.toList)) ∧ w = w'
set_option maxRecDepth 100000 in
set_option maxHeartbeats 4000000 in
theorem rdecimal_any (s : ByteArray) (w : World) (hs : s.size ≤ 9000) :
    Calls Tryz.prog 66 #[.string s] w (RdPost s w) := by
  by_cases hz : s.size = 0
  · have HF : Hid (decimalB s.data.toList = false) := by rw [Hid, ba_nil hz]; rfl
    have e1 : decide ((1 : Int) < (s.size : Int)) = false := decide_eq_false (by omega)
    have e0 : ((s.size : Int) == 0) = true := by rw [beq_iff_eq]; omega
    clear hz
    go_enter Tryz.func66, Tryz.ntmps66
    go_wp2
    go_ret
    unfold RdPost
    rw [HF.out]
    exact ⟨rfl, rfl⟩
  · by_cases h1 : 1 < s.size
    · have e1 : (1 : Int) < (s.size : Int) := by omega
      have e0 : ((s.size : Int) == 0) = false := by rw [beq_eq_false_iff_ne]; omega
      have HTz : Hid (s.size = s.size) := rfl
      have HS : Hid (s.data.toList = s[0] :: s.data.toList.drop 1) := ba_cons s (by omega)
      have HS1 : Hid (s.data.toList.drop 1 = s[1] :: s.data.toList.drop 2) := ba_drop s 1 h1
      obtain ⟨a, ha⟩ : ∃ a : Nat, s[0].toNat = a := ⟨_, rfl⟩
      obtain ⟨n, hn⟩ : ∃ n : Nat, s[1].toNat = n := ⟨_, rfl⟩
      have HAa := Lib.hid ha
      have HNn := Lib.hid hn
      by_cases h45 : a = 45
      · have HE0 : Hid (s[0] = 45) := UInt8.toNat_inj.1 (by rw [HAa.out, h45]; rfl)
        subst h45
        by_cases h48 : n = 48
        · have HE1 : Hid (s[1] = 48) := UInt8.toNat_inj.1 (by rw [HNn.out, h48]; rfl)
          have HD : Hid (decimalB s.data.toList = numB s.data.toList) := dec_min0 (by rw [← HE0.out, ← HE1.out, ← HS1.out]; exact HS.out)
          have HNm : Hid (numB s.data.toList = s.data.toList.all Wd.digB) := num_more (by rw [ba_len]; exact h1) (by rw [HS.out, HE0.out]; simp)
          subst h48
          go_enter Tryz.func66, Tryz.ntmps66
          go_wp2
          go_loopw [3] (fun i wr => ∃ k : Nat, k ≤ s.size ∧ i = .int .i64 k ∧ (s.data.toList.take k).all Wd.digB = true ∧ w = wr) (fun i _ => s.size - (intOf i).toNat)
          case atStart => exact ⟨0, by omega, rfl, by simp, rfl⟩
          case round =>
            obtain ⟨k, hk, rfl, ha, rfl⟩ := hrel
            have HA := Lib.hid ha
            clear ha
            by_cases hlt : k < s.size
            · have hlT : k < s.size := by have hx : s.size = s.size := (by simp); omega
              obtain ⟨m, hm⟩ : ∃ m : Nat, (s[k]'hlT).toNat = m := ⟨_, rfl⟩
              have HM := Lib.hid hm
              have hki : (k : Int) < ((s.size : Nat) : Int) := by omega
              obtain ⟨b, hb⟩ : ∃ b, digB m = b := ⟨_, rfl⟩
              have HBb := Lib.hid hb
              clear hb
              cases b with
              | true =>
                have HF : Hid ((s.data.toList.take (k + 1)).all Wd.digB = true) := take_all hlT HA.out (by rw [dig_at, HM.out, HBb.out])
                go_wp2_with (go_at_call 92; refine (digit_is _ _ HBb.out _).mono ?_; rintro e w2 ⟨rfl, rfl⟩)
                go_roundw
                case rel => exact ⟨k + 1, by omega, by go_num, HF.out, by first | rfl | trivial⟩
                case measure => simp [intOf]; omega
              | false =>
                have HF : Hid (decimalB s.data.toList = false) := by
                  rw [Hid, HD.out, HNm.out, List.all_eq_false]
                  exact ⟨s[k], List.mem_of_getElem? (ba_at s k hlT), by rw [dig_at, HM.out, HBb.out]; simp⟩
                go_wp2_with (go_at_call 92; refine (digit_is _ _ HBb.out _).mono ?_; rintro e w2 ⟨rfl, rfl⟩)
                go_ret
                unfold RdPost
                rw [HF.out]
                exact ⟨rfl, rfl⟩
            · have hki : decide ((k : Int) < ((s.size : Nat) : Int)) = false := decide_eq_false (by omega)
              have HF : Hid (decimalB s.data.toList = true) := by
                have := HA.out
                rw [List.take_of_length_le (by rw [ba_len]; have hx : s.size = s.size := (by simp); omega)] at this
                rw [Hid, HD.out, HNm.out, this]
              go_wp2
              go_ret
              unfold RdPost
              rw [HF.out]
              exact ⟨rfl, rfl⟩
        · have hTz : (s.extract 1 s.size).size = s.size - 1 := by simp
          have HTz := Lib.hid hTz
          have HX : Hid ((s.extract 1 s.size).data.toList = s.data.toList.drop 1) := by rw [Hid, Lib.extract_data, List.take_of_length_le (by rw [List.length_drop, ba_len]; omega)]
          have h0T : 0 < (s.extract 1 s.size).size := by omega
          have hT0 : ((s.extract 1 s.size)[0]'h0T).toNat = n := by
            have h2 := ba_cons (s.extract 1 s.size) h0T
            rw [HX.out, HS1.out] at h2
            rw [← (List.cons.inj h2).1]; exact HNn.out
          have HH : Hid ((s.data.toList.drop 1).head? ≠ some 48) := by
            rw [Hid, HS1.out]
            intro e
            have e' : s[1] = 48 := by simpa using e
            refine h48 ?_
            rw [← HNn.out, e']; rfl
          have HD : Hid (decimalB s.data.toList = numB (s.extract 1 s.size).data.toList) := by
            rw [Hid, HX.out]; exact dec_strip (by rw [← HE0.out]; exact HS.out) HH.out
          have HNm : Hid (numB (s.extract 1 s.size).data.toList = (s.extract 1 s.size).data.toList.all Wd.digB) := by
            by_cases h2 : s.size - 1 = 1
            · exact num_app (by rw [ba_len, HTz.out]; exact h2)
            · exact num_more (by rw [ba_len, HTz.out]; omega) (by rw [HX.out]; exact HH.out)
          have e48 : ((n : Int) != 48) = true := by rw [bne_iff_ne]; omega
          have e48b : ((n : Int) == 48) = false := by rw [beq_eq_false_iff_ne]; omega
          have ez0 : (((s.size - 1 : Nat) : Int) == 0) = false := by rw [beq_eq_false_iff_ne]; omega
          clear hTz h48
          by_cases h2 : 1 < s.size - 1
          · have e3 : (1 : Int) < ((s.size - 1 : Nat) : Int) := by omega
            go_enter Tryz.func66, Tryz.ntmps66
            go_wp2
            go_loopw [3] (fun i wr => ∃ k : Nat, k ≤ (s.size - 1) ∧ i = .int .i64 k ∧ ((s.extract 1 s.size).data.toList.take k).all Wd.digB = true ∧ w = wr) (fun i _ => (s.size - 1) - (intOf i).toNat)
            case atStart => exact ⟨0, by omega, rfl, by simp, rfl⟩
            case round =>
              obtain ⟨k, hk, rfl, ha, rfl⟩ := hrel
              have HA := Lib.hid ha
              clear ha
              by_cases hlt : k < (s.size - 1)
              · have hlT : k < (s.extract 1 s.size).size := by have hx : (s.extract 1 s.size).size = (s.size - 1) := (by simp); omega
                obtain ⟨m, hm⟩ : ∃ m : Nat, ((s.extract 1 s.size)[k]'hlT).toNat = m := ⟨_, rfl⟩
                have HM := Lib.hid hm
                have hki : (k : Int) < (((s.size - 1) : Nat) : Int) := by omega
                obtain ⟨b, hb⟩ : ∃ b, digB m = b := ⟨_, rfl⟩
                have HBb := Lib.hid hb
                clear hb
                cases b with
                | true =>
                  have HF : Hid (((s.extract 1 s.size).data.toList.take (k + 1)).all Wd.digB = true) := take_all hlT HA.out (by rw [dig_at, HM.out, HBb.out])
                  go_wp2_with (go_at_call 92; refine (digit_is _ _ HBb.out _).mono ?_; rintro e w2 ⟨rfl, rfl⟩)
                  go_roundw
                  case rel => exact ⟨k + 1, by omega, by go_num, HF.out, by first | rfl | trivial⟩
                  case measure => simp [intOf]; omega
                | false =>
                  have HF : Hid (decimalB s.data.toList = false) := by
                    rw [Hid, HD.out, HNm.out, List.all_eq_false]
                    exact ⟨(s.extract 1 s.size)[k], List.mem_of_getElem? (ba_at (s.extract 1 s.size) k hlT), by rw [dig_at, HM.out, HBb.out]; simp⟩
                  go_wp2_with (go_at_call 92; refine (digit_is _ _ HBb.out _).mono ?_; rintro e w2 ⟨rfl, rfl⟩)
                  go_ret
                  unfold RdPost
                  rw [HF.out]
                  exact ⟨rfl, rfl⟩
              · have hki : decide ((k : Int) < (((s.size - 1) : Nat) : Int)) = false := decide_eq_false (by omega)
                have HF : Hid (decimalB s.data.toList = true) := by
                  have := HA.out
                  rw [List.take_of_length_le (by rw [ba_len]; have hx : (s.extract 1 s.size).size = (s.size - 1) := (by simp); omega)] at this
                  rw [Hid, HD.out, HNm.out, this]
                go_wp2
                go_ret
                unfold RdPost
                rw [HF.out]
                exact ⟨rfl, rfl⟩
          · have e3 : decide ((1 : Int) < ((s.size - 1 : Nat) : Int)) = false := decide_eq_false (by omega)
            go_enter Tryz.func66, Tryz.ntmps66
            go_wp2
            go_loopw [3] (fun i wr => ∃ k : Nat, k ≤ (s.size - 1) ∧ i = .int .i64 k ∧ ((s.extract 1 s.size).data.toList.take k).all Wd.digB = true ∧ w = wr) (fun i _ => (s.size - 1) - (intOf i).toNat)
            case atStart => exact ⟨0, by omega, rfl, by simp, rfl⟩
            case round =>
              obtain ⟨k, hk, rfl, ha, rfl⟩ := hrel
              have HA := Lib.hid ha
              clear ha
              by_cases hlt : k < (s.size - 1)
              · have hlT : k < (s.extract 1 s.size).size := by have hx : (s.extract 1 s.size).size = (s.size - 1) := (by simp); omega
                obtain ⟨m, hm⟩ : ∃ m : Nat, ((s.extract 1 s.size)[k]'hlT).toNat = m := ⟨_, rfl⟩
                have HM := Lib.hid hm
                have hki : (k : Int) < (((s.size - 1) : Nat) : Int) := by omega
                obtain ⟨b, hb⟩ : ∃ b, digB m = b := ⟨_, rfl⟩
                have HBb := Lib.hid hb
                clear hb
                cases b with
                | true =>
                  have HF : Hid (((s.extract 1 s.size).data.toList.take (k + 1)).all Wd.digB = true) := take_all hlT HA.out (by rw [dig_at, HM.out, HBb.out])
                  go_wp2_with (go_at_call 92; refine (digit_is _ _ HBb.out _).mono ?_; rintro e w2 ⟨rfl, rfl⟩)
                  go_roundw
                  case rel => exact ⟨k + 1, by omega, by go_num, HF.out, by first | rfl | trivial⟩
                  case measure => simp [intOf]; omega
                | false =>
                  have HF : Hid (decimalB s.data.toList = false) := by
                    rw [Hid, HD.out, HNm.out, List.all_eq_false]
                    exact ⟨(s.extract 1 s.size)[k], List.mem_of_getElem? (ba_at (s.extract 1 s.size) k hlT), by rw [dig_at, HM.out, HBb.out]; simp⟩
                  go_wp2_with (go_at_call 92; refine (digit_is _ _ HBb.out _).mono ?_; rintro e w2 ⟨rfl, rfl⟩)
                  go_ret
                  unfold RdPost
                  rw [HF.out]
                  exact ⟨rfl, rfl⟩
              · have hki : decide ((k : Int) < (((s.size - 1) : Nat) : Int)) = false := decide_eq_false (by omega)
                have HF : Hid (decimalB s.data.toList = true) := by
                  have := HA.out
                  rw [List.take_of_length_le (by rw [ba_len]; have hx : (s.extract 1 s.size).size = (s.size - 1) := (by simp); omega)] at this
                  rw [Hid, HD.out, HNm.out, this]
                go_wp2
                go_ret
                unfold RdPost
                rw [HF.out]
                exact ⟨rfl, rfl⟩
      · have e45 : ((a : Int) == 45) = false := by rw [beq_eq_false_iff_ne]; omega
        have HD : Hid (decimalB s.data.toList = numB s.data.toList) := dec_more (by
          rw [HS.out]
          intro e
          have e' : s[0] = 45 := by simpa using e
          refine h45 ?_
          rw [← HAa.out, e']; rfl) (by rw [ba_len]; exact h1)
        clear h45
        by_cases h48 : a = 48
        · have HF : Hid (decimalB s.data.toList = false) := by
            rw [Hid, HD.out]
            exact num_zero (by rw [ba_len]; exact h1) (by rw [HS.out, show s[0] = 48 from UInt8.toNat_inj.1 (by rw [HAa.out, h48]; rfl)]; rfl)
          subst h48
          go_enter Tryz.func66, Tryz.ntmps66
          go_wp2
          go_ret
          unfold RdPost
          rw [HF.out]
          exact ⟨rfl, rfl⟩
        · have e48 : ((a : Int) == 48) = false := by rw [beq_eq_false_iff_ne]; omega
          have HNm : Hid (numB s.data.toList = s.data.toList.all Wd.digB) := num_more (by rw [ba_len]; exact h1) (by
            rw [HS.out]
            intro e
            have e' : s[0] = 48 := by simpa using e
            refine h48 ?_
            rw [← HAa.out, e']; rfl)
          clear h48
          go_enter Tryz.func66, Tryz.ntmps66
          go_wp2
          go_loopw [3] (fun i wr => ∃ k : Nat, k ≤ s.size ∧ i = .int .i64 k ∧ (s.data.toList.take k).all Wd.digB = true ∧ w = wr) (fun i _ => s.size - (intOf i).toNat)
          case atStart => exact ⟨0, by omega, rfl, by simp, rfl⟩
          case round =>
            obtain ⟨k, hk, rfl, ha, rfl⟩ := hrel
            have HA := Lib.hid ha
            clear ha
            by_cases hlt : k < s.size
            · have hlT : k < s.size := by have hx : s.size = s.size := (by simp); omega
              obtain ⟨m, hm⟩ : ∃ m : Nat, (s[k]'hlT).toNat = m := ⟨_, rfl⟩
              have HM := Lib.hid hm
              have hki : (k : Int) < ((s.size : Nat) : Int) := by omega
              obtain ⟨b, hb⟩ : ∃ b, digB m = b := ⟨_, rfl⟩
              have HBb := Lib.hid hb
              clear hb
              cases b with
              | true =>
                have HF : Hid ((s.data.toList.take (k + 1)).all Wd.digB = true) := take_all hlT HA.out (by rw [dig_at, HM.out, HBb.out])
                go_wp2_with (go_at_call 92; refine (digit_is _ _ HBb.out _).mono ?_; rintro e w2 ⟨rfl, rfl⟩)
                go_roundw
                case rel => exact ⟨k + 1, by omega, by go_num, HF.out, by first | rfl | trivial⟩
                case measure => simp [intOf]; omega
              | false =>
                have HF : Hid (decimalB s.data.toList = false) := by
                  rw [Hid, HD.out, HNm.out, List.all_eq_false]
                  exact ⟨s[k], List.mem_of_getElem? (ba_at s k hlT), by rw [dig_at, HM.out, HBb.out]; simp⟩
                go_wp2_with (go_at_call 92; refine (digit_is _ _ HBb.out _).mono ?_; rintro e w2 ⟨rfl, rfl⟩)
                go_ret
                unfold RdPost
                rw [HF.out]
                exact ⟨rfl, rfl⟩
            · have hki : decide ((k : Int) < ((s.size : Nat) : Int)) = false := decide_eq_false (by omega)
              have HF : Hid (decimalB s.data.toList = true) := by
                have := HA.out
                rw [List.take_of_length_le (by rw [ba_len]; have hx : s.size = s.size := (by simp); omega)] at this
                rw [Hid, HD.out, HNm.out, this]
              go_wp2
              go_ret
              unfold RdPost
              rw [HF.out]
              exact ⟨rfl, rfl⟩
    · have e1 : decide ((1 : Int) < (s.size : Int)) = false := decide_eq_false (by omega)
      have e0 : ((s.size : Int) == 0) = false := by rw [beq_eq_false_iff_ne]; omega
      have HTz : Hid (s.size = s.size) := rfl
      have HD : Hid (decimalB s.data.toList = numB s.data.toList) := dec_one (by rw [ba_len]; omega)
      have HNm : Hid (numB s.data.toList = s.data.toList.all Wd.digB) := num_app (by rw [ba_len]; omega)
      go_enter Tryz.func66, Tryz.ntmps66
      go_wp2
      go_loopw [3] (fun i wr => ∃ k : Nat, k ≤ s.size ∧ i = .int .i64 k ∧ (s.data.toList.take k).all Wd.digB = true ∧ w = wr) (fun i _ => s.size - (intOf i).toNat)
      case atStart => exact ⟨0, by omega, rfl, by simp, rfl⟩
      case round =>
        obtain ⟨k, hk, rfl, ha, rfl⟩ := hrel
        have HA := Lib.hid ha
        clear ha
        by_cases hlt : k < s.size
        · have hlT : k < s.size := by have hx : s.size = s.size := (by simp); omega
          obtain ⟨m, hm⟩ : ∃ m : Nat, (s[k]'hlT).toNat = m := ⟨_, rfl⟩
          have HM := Lib.hid hm
          have hki : (k : Int) < ((s.size : Nat) : Int) := by omega
          obtain ⟨b, hb⟩ : ∃ b, digB m = b := ⟨_, rfl⟩
          have HBb := Lib.hid hb
          clear hb
          cases b with
          | true =>
            have HF : Hid ((s.data.toList.take (k + 1)).all Wd.digB = true) := take_all hlT HA.out (by rw [dig_at, HM.out, HBb.out])
            go_wp2_with (go_at_call 92; refine (digit_is _ _ HBb.out _).mono ?_; rintro e w2 ⟨rfl, rfl⟩)
            go_roundw
            case rel => exact ⟨k + 1, by omega, by go_num, HF.out, by first | rfl | trivial⟩
            case measure => simp [intOf]; omega
          | false =>
            have HF : Hid (decimalB s.data.toList = false) := by
              rw [Hid, HD.out, HNm.out, List.all_eq_false]
              exact ⟨s[k], List.mem_of_getElem? (ba_at s k hlT), by rw [dig_at, HM.out, HBb.out]; simp⟩
            go_wp2_with (go_at_call 92; refine (digit_is _ _ HBb.out _).mono ?_; rintro e w2 ⟨rfl, rfl⟩)
            go_ret
            unfold RdPost
            rw [HF.out]
            exact ⟨rfl, rfl⟩
        · have hki : decide ((k : Int) < ((s.size : Nat) : Int)) = false := decide_eq_false (by omega)
          have HF : Hid (decimalB s.data.toList = true) := by
            have := HA.out
            rw [List.take_of_length_le (by rw [ba_len]; have hx : s.size = s.size := (by simp); omega)] at this
            rw [Hid, HD.out, HNm.out, this]
          go_wp2
          go_ret
          unfold RdPost
          rw [HF.out]
          exact ⟨rfl, rfl⟩
theorem rdecimal_same (s : ByteArray) (b : Bool) (h : decimalB s.data.toList = b) (w : World) (hs : s.size ≤ 9000) :
    Calls Tryz.prog 66 #[.string s] w fun e w' => e = .returned (.bool b) ∧ w = w' := by
  have := rdecimal_any s w hs
  unfold RdPost at this
  rwa [h] at this
theorem rdecimal_is (s : ByteArray) (b : Bool) (h : decimalB s.data.toList = b) (w : World) (hs : s.size ≤ 9000) :
    Calls Tryz.prog 66 #[.string s] w fun e w' => e = .returned (.bool b) ∧ Below w.heap.size w w' :=
  (rdecimal_same s b h w hs).mono fun e w' ⟨h1, h2⟩ => ⟨h1, by rw [← h2]; exact Below.refl _ _⟩
end Go.Proofs.YtaojogaakhidhaaGreatDoor

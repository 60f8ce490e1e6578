/- The reference of chapter 1: Int. -/
import Derived.Test.YtaojogaakhidhaaGreatDoorWRDec
import Derived.Outline
namespace Go.Proofs.YtaojogaakhidhaaGreatDoor
open Go.RowKit
open Wd (decimalB decVal unsign natFrom intV intE)

/-- What is read of a decimal form's first k bytes. -/
def acc (l : List UInt8) (k : Nat) : Nat := natFrom 0 (unsign (l.take k))
theorem acc_zero (l : List UInt8) : acc l 0 = 0 := by simp [acc, unsign, natFrom]
theorem unsign_snoc {l : List UInt8} {c : UInt8} (h : l ≠ [] ∨ c ≠ 45) : unsign (l ++ [c]) = unsign l ++ [c] := by
  match l, h with
  | [], h =>
    have hc : c ≠ 45 := h.resolve_left (fun h => h rfl)
    simp [unsign, hc]
  | a :: l, _ =>
    unfold unsign
    by_cases ha : a = 45
    · subst ha; simp
    · simp [ha]
theorem acc_step {l : List UInt8} {k : Nat} {c : UInt8} (h : l[k]? = some c) (hk : k ≠ 0 ∨ c ≠ 45) : acc l (k + 1) = acc l k * 10 + (c.toNat - 48) := by
  have hl : k < l.length := (List.getElem?_eq_some_iff.1 h).1
  unfold acc
  rw [List.take_add_one, h, Option.toList_some, unsign_snoc, Wd.natFrom_snoc]
  rcases hk with hk | hk
  · left
    intro e
    have := congrArg List.length e
    rw [List.length_take, List.length_nil] at this
    omega
  · exact .inr hk
theorem acc_minus {l : List UInt8} (h : l[0]? = some 45) : acc l 1 = 0 := by
  match l, h with
  | a :: l, h => simp at h; subst h; simp [acc, unsign, natFrom]
theorem acc_all {l : List UInt8} {k : Nat} (h : l.length ≤ k) : acc l k = natFrom 0 (unsign l) := by rw [acc, List.take_of_length_le h]
theorem dec_at {l : List UInt8} (h : decimalB l = true) {k : Nat} {c : UInt8} (hk : l[k]? = some c) : (c.toNat = 45 ∧ k = 0) ∨ (48 ≤ c.toNat ∧ c.toNat ≤ 57) := by
  obtain ⟨_, h2, _⟩ := Wd.decimal_parts h
  match l, k, h2, hk with
  | a :: r, k, h2, hk =>
    by_cases ha : a = 45
    · subst ha
      rw [Wd.unsign_minus] at h2
      match k, hk with
      | 0, hk => simp at hk; subst hk; exact .inl ⟨rfl, rfl⟩
      | j + 1, hk => exact .inr ((Wd.digB_iff c).1 (List.all_eq_true.1 h2 c (List.mem_of_getElem? (by simpa using hk))))
    · rw [Wd.unsign_other (by simpa using ha)] at h2
      exact .inr ((Wd.digB_iff c).1 (List.all_eq_true.1 h2 c (List.mem_of_getElem? hk)))
theorem acc_le (l : List UInt8) (k : Nat) : acc l k ≤ natFrom 0 (unsign l) := by
  unfold acc
  match l, k with
  | [], _ => simp
  | a :: r, 0 => simp [unsign, natFrom]
  | a :: r, j + 1 =>
    rw [List.take_succ_cons]
    by_cases ha : a = 45
    · subst ha
      rw [Wd.unsign_minus, Wd.unsign_minus]
      exact Wd.natFrom_take_le 0 r j
    · rw [Wd.unsign_other (by simpa using ha), Wd.unsign_other (by simpa using ha), ← List.take_succ_cons]
      exact Wd.natFrom_take_le 0 (a :: r) (j + 1)
theorem decVal_minus {l : List UInt8} (h : l.head? = some 45) : decVal l = -(natFrom 0 (unsign l) : Int) := by unfold decVal; rw [if_pos h]
theorem decVal_plus {l : List UInt8} (h : l.head? ≠ some 45) : decVal l = (natFrom 0 (unsign l) : Int) := by unfold decVal; rw [if_neg h]
theorem int_out {l : List UInt8} {lo hi : Int} (h : decimalB l = true) (ho : ¬ (lo ≤ decVal l ∧ decVal l ≤ hi)) : intV l lo hi = 0 ∧ intE l lo hi = 7 := by
  refine ⟨?_, ?_⟩
  · unfold intV; rw [if_neg]; rintro ⟨_, h⟩; exact ho h
  · unfold intE; rw [if_pos h, if_neg ho]
theorem int_in {l : List UInt8} {lo hi : Int} (h : decimalB l = true) (ho : lo ≤ decVal l ∧ decVal l ≤ hi) : intV l lo hi = decVal l ∧ intE l lo hi = 0 := by
  refine ⟨?_, ?_⟩
  · unfold intV; rw [if_pos ⟨h, ho⟩]
  · unfold intE; rw [if_pos h, if_pos ho]

set_option maxRecDepth 100000 in
set_option maxHeartbeats 2000000 in
theorem rint_any (s : ByteArray) (lo hi : Int) (w : World) (hs : s.size ≤ 9000) (he : Ends lo hi) :
    Calls Tryz.prog 42 #[.string s, .int .i64 lo, .int .i64 hi] w (IPost s lo hi w) := by
  have HE := Lib.hid he
  clear he
  cases hd : decimalB s.data.toList with
  | false =>
    have HD := Lib.hid hd
    have HF : Hid (intV s.data.toList lo hi = 0 ∧ intE s.data.toList lo hi = 6) := by simp [Hid, intV, intE, hd]
    clear hd
    go_enter Tryz.func42, Tryz.ntmps42
    go_wp2_with (go_at_call 66; refine (rdecimal_is _ _ HD.out _ hs).mono ?_; rintro e w2 ⟨rfl, hb2⟩)
    go_ret2
    unfold IPost
    rw [HF.out.1, HF.out.2]
    exact ⟨rfl, hb2⟩
  | true =>
    have HD := Lib.hid hd
    have h0 : 0 < s.size := by
      rcases Nat.eq_zero_or_pos s.size with h | h
      · rw [ba_nil h] at hd; cases hd
      · exact h
    have HS : Hid (s.data.toList = s[0] :: s.data.toList.drop 1) := ba_cons s h0
    obtain ⟨m0, hm0⟩ : ∃ n : Nat, s[0].toNat = n := ⟨_, rfl⟩
    have HM0 := Lib.hid hm0
    obtain ⟨mi, hmi⟩ : ∃ b : Bool, ((m0 : Int) == 45) = b := ⟨_, rfl⟩
    have HH : Hid (s.data.toList.head? = some 45 ↔ mi = true) := by
      rw [Hid, HS.out, List.head?_cons, Option.some.injEq, ← hmi, beq_iff_eq, ← HM0.out, ← UInt8.toNat_inj]
      show s[0].toNat = 45 ↔ _
      omega
    clear hd
    go_enter Tryz.func42, Tryz.ntmps42
    go_wp2_with (go_at_call 66; refine (rdecimal_is _ _ HD.out _ hs).mono ?_; rintro e w2 ⟨rfl, hb2⟩)
    have HB := Lib.hid hb2
    clear hb2 hm0 hmi
    go_loopw [9, 10, 11] (fun n i _ wr => ∃ (k : Nat) (x : Int), k ≤ s.size ∧ i = .int .i64 k ∧ n = .int .i64 x ∧ x = -(acc s.data.toList k : Int) ∧ -9223372036854775808 ≤ x ∧ w2 = wr) (fun _ i _ _ => s.size - (intOf i).toNat)
    case atStart => exact ⟨0, 0, by omega, rfl, rfl, by rw [acc_zero]; rfl, by omega, rfl⟩
    case round =>
      obtain ⟨k, x, hk, rfl, rfl, hx, hlo, rfl⟩ := hrel
      have hx0 : x ≤ 0 := by omega
      have HX := Lib.hid hx
      clear hx
      by_cases hlt : k < s.size
      · obtain ⟨m, hm⟩ : ∃ m : Nat, s[k].toNat = m := ⟨_, rfl⟩
        have HM := Lib.hid hm
        have el : decide (k < s.size) = true := by simpa using hlt
        rcases dec_at HD.out (ba_at s k hlt) with ⟨hc, rfl⟩ | ⟨hc1, hc2⟩
        · obtain rfl : m = 45 := by rw [← hm]; exact hc
          have HA : Hid (acc s.data.toList (0 + 1) = 0) := acc_minus (by rw [ba_at s 0 hlt, UInt8.toNat_inj.1 (show s[0].toNat = (45 : UInt8).toNat from hc)])
          have HX0 : Hid (x = 0) := by rw [Hid, HX.out, acc_zero]; rfl
          clear hc
          go_wp2
          go_roundw
          case rel => exact ⟨1, x, by omega, by go_num, rfl, by rw [HX0.out]; have := HA.out; simp only [Nat.zero_add] at this; rw [this]; rfl, hlo, by first | rfl | trivial⟩
          case measure => simp [intOf]; omega
        · rw [hm] at hc1 hc2
          have e45 : ((m : Int) == 45) = false := by rw [beq_eq_false_iff_ne]; omega
          have HA : Hid (acc s.data.toList (k + 1) = acc s.data.toList k * 10 + (m - 48)) := by
            have hne : s[k] ≠ 45 := fun e => by
              rw [e] at hm
              have : m = 45 := by rw [← hm]; rfl
              omega
            rw [Hid, acc_step (ba_at s k hlt) (.inr hne), hm]
          have hst := Wd.step_over x ((m : Int) - 48) hx0 (by omega) (by omega)

          by_cases ho : 10 * x - ((m : Int) - 48) < -9223372036854775808
          · have ht := hst.2 ho
            have HF : Hid (intV s.data.toList lo hi = 0 ∧ intE s.data.toList lo hi = 7) := by
              refine int_out HD.out ?_
              have h1 := acc_le s.data.toList (k + 1)
              have h2 := HA.out
              have h3 := HX.out
              have h4 := HE.out
              unfold Ends at h4
              by_cases hh : s.data.toList.head? = some 45
              · rw [decVal_minus hh]; omega
              · rw [decVal_plus hh]; omega
            clear hst ho
            go_wp2
            go_ret2
            unfold IPost
            rw [HF.out.1, HF.out.2]
            exact ⟨rfl, HB.out⟩
          · have ht : Int.tdiv (-9223372036854775808 + ((m : Int) - 48)) 10 ≤ x := by
              rcases Int.lt_or_le x (Int.tdiv (-9223372036854775808 + ((m : Int) - 48)) 10) with h | h
              · exact absurd (hst.1 h) ho
              · exact h
            have b1 : -9223372036854775808 ≤ 10 * x := by omega
            have b2 : -9223372036854775808 ≤ 10 * x - ((m : Int) - 48) := by omega
            have HN : Hid (10 * x - ((m : Int) - 48) = -(acc s.data.toList (k + 1) : Int)) := by
              rw [Hid, HA.out]
              have h3 := HX.out
              omega
            clear hst ho
            go_wp2
            go_roundw
            case rel => exact ⟨k + 1, 10 * x - ((m : Int) - 48), by omega, by go_num, rfl, HN.out, b2, by first | rfl | trivial⟩
            case measure => simp [intOf]; omega
      · have el : decide (k < s.size) = false := by simpa using hlt
        have HV : Hid (x = -(natFrom 0 (unsign s.data.toList) : Int)) := by rw [Hid, HX.out, acc_all (by rw [ba_len]; omega)]
        clear hlt
        cases mi with
        | true =>
          have HD2 : Hid (decVal s.data.toList = x) := by rw [Hid, decVal_minus (HH.out.2 rfl), HV.out]
          by_cases h1 : x < lo
          · have HF := Lib.hid (int_out (lo := lo) (hi := hi) HD.out (by rw [HD2.out]; omega))
            go_wp2
            go_ret2
            unfold IPost
            rw [HF.out.1, HF.out.2]
            exact ⟨rfl, HB.out⟩
          · by_cases h2 : hi < x
            · have HF := Lib.hid (int_out (lo := lo) (hi := hi) HD.out (by rw [HD2.out]; omega))
              go_wp2
              go_ret2
              unfold IPost
              rw [HF.out.1, HF.out.2]
              exact ⟨rfl, HB.out⟩
            · have HF := Lib.hid (int_in (lo := lo) (hi := hi) HD.out (by rw [HD2.out]; omega))
              go_wp2
              go_ret2
              unfold IPost
              rw [HF.out.1, HF.out.2, HD2.out]
              exact ⟨rfl, HB.out⟩
        | false =>
          have hnh : ¬ s.data.toList.head? = some 45 := fun e => by have := HH.out.1 e; cases this
          have HD2 : Hid (decVal s.data.toList = -x) := by rw [Hid, decVal_plus hnh, HV.out]; omega
          clear hnh
          by_cases h0 : x = -9223372036854775808
          · have HF := Lib.hid (int_out (lo := lo) (hi := hi) HD.out (by rw [HD2.out]; have := HE.out; unfold Ends at this; omega))
            subst h0
            go_wp2
            go_ret2
            unfold IPost
            rw [HF.out.1, HF.out.2]
            exact ⟨rfl, HB.out⟩
          · have e0 : (x == -9223372036854775808) = false := by rw [beq_eq_false_iff_ne]; exact h0
            have b1 : -x ≤ 9223372036854775807 := by omega
            clear h0
            by_cases h1 : -x < lo
            · have HF := Lib.hid (int_out (lo := lo) (hi := hi) HD.out (by rw [HD2.out]; omega))
              go_wp2
              go_ret2
              unfold IPost
              rw [HF.out.1, HF.out.2]
              exact ⟨rfl, HB.out⟩
            · by_cases h2 : hi < -x
              · have HF := Lib.hid (int_out (lo := lo) (hi := hi) HD.out (by rw [HD2.out]; omega))
                go_wp2
                go_ret2
                unfold IPost
                rw [HF.out.1, HF.out.2]
                exact ⟨rfl, HB.out⟩
              · have HF := Lib.hid (int_in (lo := lo) (hi := hi) HD.out (by rw [HD2.out]; omega))
                go_wp2
                go_ret2
                unfold IPost
                rw [HF.out.1, HF.out.2, HD2.out]
                exact ⟨rfl, HB.out⟩
end Go.Proofs.YtaojogaakhidhaaGreatDoor

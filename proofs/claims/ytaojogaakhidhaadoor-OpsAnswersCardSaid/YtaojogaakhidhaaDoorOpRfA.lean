/- The reference of chapter 28: word, get, set, has. -/
import Derived.Test.YtaojogaakhidhaaDoorOpArg
namespace Go.Proofs.YtaojogaakhidhaaDoor
open Go.RowKit
open Sc (OC OA WfC WfA kf kw num setN)

/-- The letter of a field. -/
def ltr (i : Nat) : UInt8 := if i = 1 then 97 else if i = 2 then 98 else if i = 3 then 102 else if i = 4 then 112 else if i = 5 then 114 else 118
def ltrs (k : Int) : List UInt8 := if 1 ≤ k ∧ k ≤ 11 then (kf k).map ltr else []
def wrd (k : Int) : List UInt8 := if 1 ≤ k ∧ k ≤ 11 then kw k else []
set_option maxHeartbeats 4000000 in
theorem rword_any (k : Int) (w : World) : Calls Tryd.prog 37 #[.int .i64 k] w fun e w' => e = .returned (.tuple #[.string ⟨(wrd k).toArray⟩, .string ⟨(ltrs k).toArray⟩]) ∧ w = w' := by
  by_cases hk : 1 ≤ k ∧ k ≤ 11
  · rcases Sc.kcases hk with rfl | rfl | rfl | rfl | rfl | rfl | rfl | rfl | rfl | rfl | rfl
    all_goals
      go_enter Tryd.func37, Tryd.ntmps37
      go_wp2
      go_ret2
      exact ⟨rfl, rfl⟩
  · have HW : Hid (wrd k = []) := by rw [Hid, wrd, if_neg hk]
    have HL : Hid (ltrs k = []) := by rw [Hid, ltrs, if_neg hk]
    have n1 : (k == 1) = false := by rw [beq_eq_false_iff_ne]; omega
    have n2 : (k == 2) = false := by rw [beq_eq_false_iff_ne]; omega
    have n3 : (k == 3) = false := by rw [beq_eq_false_iff_ne]; omega
    have n4 : (k == 4) = false := by rw [beq_eq_false_iff_ne]; omega
    have n5 : (k == 5) = false := by rw [beq_eq_false_iff_ne]; omega
    have n6 : (k == 6) = false := by rw [beq_eq_false_iff_ne]; omega
    have n7 : (k == 7) = false := by rw [beq_eq_false_iff_ne]; omega
    have n8 : (k == 8) = false := by rw [beq_eq_false_iff_ne]; omega
    have n9 : (k == 9) = false := by rw [beq_eq_false_iff_ne]; omega
    have n10 : (k == 10) = false := by rw [beq_eq_false_iff_ne]; omega
    have n11 : (k == 11) = false := by rw [beq_eq_false_iff_ne]; omega
    clear hk
    go_enter Tryd.func37, Tryd.ntmps37
    go_wp2
    go_ret2
    rw [HW.out, HL.out]
    exact ⟨rfl, rfl⟩
set_option maxHeartbeats 4000000 in
theorem rget_any (c : OC) (i : Nat) (hi : 1 ≤ i ∧ i ≤ 5) (w : World) : Calls Tryd.prog 39 #[.agg (ocells c), .int .u8 ((ltr i).toNat : Int)] w fun e w' => e = .returned (.int .i64 (num c i)) ∧ Ow w w' := by
  rcases (show i = 1 ∨ i = 2 ∨ i = 3 ∨ i = 4 ∨ i = 5 by omega) with rfl | rfl | rfl | rfl | rfl
  · show Calls Tryd.prog 39 #[.agg #[.int .i64 c.k, .int .i64 c.a, .int .i64 c.b, .int .i64 c.f, .int .i64 c.p, .int .i64 c.r, .int .u64 c.v], .int .u8 97] w fun e w' => e = .returned (.int .i64 c.a) ∧ Ow w w'
    go_enter Tryd.func39, Tryd.ntmps39
    go_wp2
    go_ret
    exact ⟨rfl, by first | exact Ow.refl _ | exact (Ow.refl _).alloc _⟩
  · show Calls Tryd.prog 39 #[.agg #[.int .i64 c.k, .int .i64 c.a, .int .i64 c.b, .int .i64 c.f, .int .i64 c.p, .int .i64 c.r, .int .u64 c.v], .int .u8 98] w fun e w' => e = .returned (.int .i64 c.b) ∧ Ow w w'
    go_enter Tryd.func39, Tryd.ntmps39
    go_wp2
    go_ret
    exact ⟨rfl, by first | exact Ow.refl _ | exact (Ow.refl _).alloc _⟩
  · show Calls Tryd.prog 39 #[.agg #[.int .i64 c.k, .int .i64 c.a, .int .i64 c.b, .int .i64 c.f, .int .i64 c.p, .int .i64 c.r, .int .u64 c.v], .int .u8 102] w fun e w' => e = .returned (.int .i64 c.f) ∧ Ow w w'
    go_enter Tryd.func39, Tryd.ntmps39
    go_wp2
    go_ret
    exact ⟨rfl, by first | exact Ow.refl _ | exact (Ow.refl _).alloc _⟩
  · show Calls Tryd.prog 39 #[.agg #[.int .i64 c.k, .int .i64 c.a, .int .i64 c.b, .int .i64 c.f, .int .i64 c.p, .int .i64 c.r, .int .u64 c.v], .int .u8 112] w fun e w' => e = .returned (.int .i64 c.p) ∧ Ow w w'
    go_enter Tryd.func39, Tryd.ntmps39
    go_wp2
    go_ret
    exact ⟨rfl, by first | exact Ow.refl _ | exact (Ow.refl _).alloc _⟩
  · show Calls Tryd.prog 39 #[.agg #[.int .i64 c.k, .int .i64 c.a, .int .i64 c.b, .int .i64 c.f, .int .i64 c.p, .int .i64 c.r, .int .u64 c.v], .int .u8 114] w fun e w' => e = .returned (.int .i64 c.r) ∧ Ow w w'
    go_enter Tryd.func39, Tryd.ntmps39
    go_wp2
    go_ret
    exact ⟨rfl, by first | exact Ow.refl _ | exact (Ow.refl _).alloc _⟩
/-- Is a letter among letters? -/
theorem rhas_any (s : ByteArray) (c : UInt8) (m : Nat) (hm : c.toNat = m) (b : Bool) (hb : s.data.toList.contains c = b) (w : World) (hs : s.size ≤ 9000) : Calls Tryd.prog 38 #[.string s, .int .u8 (m : Int)] w fun e w' => e = .returned (.bool b) ∧ w = w' := by
  have HM := Lib.hid hm
  have HB := Lib.hid hb
  clear hm hb
  go_enter Tryd.func38, Tryd.ntmps38
  go_wp2
  go_loopw [5] (fun i wr => ∃ k : Nat, k ≤ s.size ∧ i = .int .i64 k ∧ Hid (∀ j, j < k → s.data.toList[j]? ≠ some c) ∧ w = wr) (fun i _ => s.size - (intOf i).toNat)
  case atStart => exact ⟨0, by omega, rfl, fun j hj => absurd hj (Nat.not_lt_zero _), rfl⟩
  case round =>
    obtain ⟨k, hk, rfl, HA, rfl⟩ := hrel
    by_cases hlt : k < s.size
    · obtain ⟨n, hn⟩ : ∃ n : Nat, s[k].toNat = n := ⟨_, rfl⟩
      have el : decide (k < s.size) = true := by simpa using hlt
      by_cases hnm : n = m
      · have HF : Hid (b = true) := by
          rw [Hid, ← HB.out]
          simp only [List.contains_iff_mem]
          have e : s[k] = c := UInt8.toNat_inj.1 (by rw [hn, hnm, HM.out])
          exact List.mem_of_getElem? (by rw [ba_at s k hlt, e])
        subst hnm
        go_wp2
        go_ret
        rw [HF.out]
        exact ⟨rfl, rfl⟩
      · have en : ((n : Int) == (m : Int)) = false := by rw [beq_eq_false_iff_ne]; omega
        have HN : Hid (∀ j, j < k + 1 → s.data.toList[j]? ≠ some c) := fun j hj => by
          by_cases h : j = k
          · subst h; rw [ba_at s j hlt]; intro e; apply hnm; rw [← hn, ← HM.out]; exact congrArg UInt8.toNat (Option.some.inj e)
          · exact HA.out j (by omega)
        clear hnm
        go_wp2
        go_roundw
        case rel => exact ⟨k + 1, by omega, by go_num, HN, by first | rfl | trivial⟩
        case measure => simp [intOf]; omega
    · have el : decide (k < s.size) = false := by simpa using hlt
      have HF : Hid (b = false) := by
        rw [Hid, ← HB.out, ← Bool.not_eq_true, List.contains_iff_mem]
        intro hmem
        obtain ⟨j, hj, e⟩ := List.getElem_of_mem hmem
        rw [ba_len] at hj
        exact HA.out j (by omega) (by rw [List.getElem?_eq_getElem (by rw [ba_len]; exact hj), e])
      go_wp2
      go_ret
      rw [HF.out]
      exact ⟨rfl, rfl⟩
end Go.Proofs.YtaojogaakhidhaaDoor

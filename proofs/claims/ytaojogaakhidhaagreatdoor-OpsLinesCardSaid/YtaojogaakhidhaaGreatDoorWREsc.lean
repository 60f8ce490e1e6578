/- The reference of chapter 1: plain, hex, escaped. -/
import Derived.Test.YtaojogaakhidhaaGreatDoorOpFld
namespace Go.Proofs.YtaojogaakhidhaaGreatDoor
open Go.RowKit
open Wd (plainB letB escB hexB)

set_option maxHeartbeats 400000 in
theorem rplain_is (c : UInt8) (n : Nat) (hn : c.toNat = n) (b : Bool) (hb : plainB c = b) (w : World) :
    Calls Tryz.prog 64 #[.int .u8 (n : Int)] w fun e w' => e = .returned (.bool b) ∧ w = w' := by
  subst hb
  rw [plain_iff, hn]
  have hlt : n < 256 := by rw [← hn]; exact byte_lt c
  clear hn
  by_cases h1 : 32 ≤ n
  · by_cases h2 : n ≤ 126
    · by_cases h3 : n = 34
      · subst h3
        go_enter Tryz.func64, Tryz.ntmps64
        go_wp2
        go_ret
        exact ⟨rfl, rfl⟩
      · by_cases h4 : n = 92
        · subst h4
          go_enter Tryz.func64, Tryz.ntmps64
          go_wp2
          go_ret
          exact ⟨rfl, rfl⟩
        · have e3 : ((n : Int) != 34) = true := by rw [bne_iff_ne]; omega
          have e4 : ((n : Int) != 92) = true := by rw [bne_iff_ne]; omega
          go_enter Tryz.func64, Tryz.ntmps64
          go_wp2
          go_ret
          exact ⟨by simp [h1, h2, h3, h4], rfl⟩
    · go_enter Tryz.func64, Tryz.ntmps64
      go_wp2
      go_ret
      exact ⟨by simp, rfl⟩
  · go_enter Tryz.func64, Tryz.ntmps64
    go_wp2
    go_ret
    exact ⟨by simp, rfl⟩

set_option maxHeartbeats 1000000 in
theorem hex_is (c : UInt8) (n : Nat) (hn : c.toNat = n) (h : n < 16) (w : World) :
    Calls Tryz.prog 91 #[.int .u8 (n : Int)] w fun e w' => e = .returned (.int .u8 ((hexB c).toNat : Int)) ∧ w = w' := by
  have hv : (hexB c).toNat = if n < 10 then 48 + n else 87 + n := by
    have := Wd.all256 (p := fun c => decide (c.toNat < 16 → (hexB c).toNat = if c.toNat < 10 then 48 + c.toNat else 87 + c.toNat)) (by decide +kernel) c
    simp only [decide_eq_true_eq] at this
    rw [← hn]; exact this (by omega)
  rw [hv]
  clear hv hn
  rcases (show n = 0 ∨ n = 1 ∨ n = 2 ∨ n = 3 ∨ n = 4 ∨ n = 5 ∨ n = 6 ∨ n = 7 ∨ n = 8 ∨ n = 9 ∨ n = 10 ∨ n = 11 ∨ n = 12 ∨ n = 13 ∨ n = 14 ∨ n = 15 by omega) with rfl | rfl | rfl | rfl | rfl | rfl | rfl | rfl | rfl | rfl | rfl | rfl | rfl | rfl | rfl | rfl
  all_goals
    go_enter Tryz.func91, Tryz.ntmps91
    go_wp2
    go_ret
    exact ⟨rfl, rfl⟩

theorem hex_int (c : UInt8) (m : Int) (hm : (c.toNat : Int) = m) (h : m < 16) (w : World) :
    Calls Tryz.prog 91 #[.int .u8 m] w fun e w' => e = .returned (.int .u8 ((hexB c).toNat : Int)) ∧ w = w' := by
  subst hm
  exact hex_is c _ rfl (by omega) w
def EPost (c : UInt8) (w : World) (e : Ending) (w' : World) : Prop := e = .returned (.string ⟨(escB c).toArray⟩) ∧ Ow w w'
set_option maxHeartbeats 1000000 in
theorem escaped_any (c : UInt8) (n : Nat) (hn : c.toNat = n) (w : World) :
    Calls Tryz.prog 63 #[.int .u8 (n : Int)] w (EPost c w) := by
  have HN := Lib.hid hn
  have hlt : n < 256 := by rw [← hn]; exact byte_lt c
  clear hn
  cases hp : plainB c with
  | true =>
    have HP := Lib.hid hp
    have HF : Hid (escB c = [c]) := by simp [Hid, escB, hp]
    clear hp
    have hcv := conv_new w 63 9 5 Tryz.underlying63 Tryz.underlying5 Tryz.underlying9 [c] 1 1 rfl #[.int .u8 (n : Int)] (by rw [← HN.out]; rfl)
    go_enter Tryz.func63, Tryz.ntmps63
    go_wp2_with (go_at_call 64; refine (rplain_is _ _ HN.out _ HP.out _).mono ?_; rintro e w2 ⟨rfl, rfl⟩)
    go_ret
    unfold EPost
    rw [HF.out]
    exact ⟨rfl, (Ow.refl _).alloc _⟩
  | false =>
    have HP := Lib.hid hp
    clear hp
    by_cases h34 : n = 34
    · obtain rfl : c = 34 := byte_val (HN.out.trans h34)
      subst h34
      go_enter Tryz.func63, Tryz.ntmps63
      go_wp2_with (go_at_call 64; refine (rplain_is _ _ HN.out _ HP.out _).mono ?_; rintro e w2 ⟨rfl, rfl⟩)
      go_ret
      exact ⟨rfl, Ow.refl _⟩
    have e34 : ((n : Int) == 34) = false := by rw [beq_eq_false_iff_ne]; omega
    by_cases h92 : n = 92
    · obtain rfl : c = 92 := byte_val (HN.out.trans h92)
      subst h92
      go_enter Tryz.func63, Tryz.ntmps63
      go_wp2_with (go_at_call 64; refine (rplain_is _ _ HN.out _ HP.out _).mono ?_; rintro e w2 ⟨rfl, rfl⟩)
      go_ret
      exact ⟨rfl, Ow.refl _⟩
    have e92 : ((n : Int) == 92) = false := by rw [beq_eq_false_iff_ne]; omega
    by_cases h10 : n = 10
    · obtain rfl : c = 10 := byte_val (HN.out.trans h10)
      subst h10
      go_enter Tryz.func63, Tryz.ntmps63
      go_wp2_with (go_at_call 64; refine (rplain_is _ _ HN.out _ HP.out _).mono ?_; rintro e w2 ⟨rfl, rfl⟩)
      go_ret
      exact ⟨rfl, Ow.refl _⟩
    have e10 : ((n : Int) == 10) = false := by rw [beq_eq_false_iff_ne]; omega
    by_cases h13 : n = 13
    · obtain rfl : c = 13 := byte_val (HN.out.trans h13)
      subst h13
      go_enter Tryz.func63, Tryz.ntmps63
      go_wp2_with (go_at_call 64; refine (rplain_is _ _ HN.out _ HP.out _).mono ?_; rintro e w2 ⟨rfl, rfl⟩)
      go_ret
      exact ⟨rfl, Ow.refl _⟩
    have e13 : ((n : Int) == 13) = false := by rw [beq_eq_false_iff_ne]; omega
    by_cases h9 : n = 9
    · obtain rfl : c = 9 := byte_val (HN.out.trans h9)
      subst h9
      go_enter Tryz.func63, Tryz.ntmps63
      go_wp2_with (go_at_call 64; refine (rplain_is _ _ HN.out _ HP.out _).mono ?_; rintro e w2 ⟨rfl, rfl⟩)
      go_ret
      exact ⟨rfl, Ow.refl _⟩
    have e9 : ((n : Int) == 9) = false := by rw [beq_eq_false_iff_ne]; omega
    have HL : Hid (escB c = [92, 120, hexB (c / 16), hexB (c % 16)]) := by
      have : letB c = 0 := by
        rw [let_at, HN.out]; unfold letV
        rw [if_neg h34, if_neg h92, if_neg h10, if_neg h13, if_neg h9]
      simp [Hid, escB, HP.out, this]
    have HD : Hid ((c / 16).toNat = n / 16) := by rw [Hid, UInt8.toNat_div, HN.out]; rfl
    have HM : Hid ((c % 16).toNat = n % 16) := by rw [Hid, UInt8.toNat_mod, HN.out]; rfl
    have g1 : n / 16 < 16 := by omega
    have g2 : n % 16 < 16 := by omega
    have hcv := conv_new w 63 9 5 Tryz.underlying63 Tryz.underlying5 Tryz.underlying9 [hexB (c / 16), hexB (c % 16)] 2 2 rfl #[.int .u8 ((hexB (c / 16)).toNat : Int), .int .u8 ((hexB (c % 16)).toNat : Int)] rfl
    clear h34 h92 h10 h13 h9
    go_enter Tryz.func63, Tryz.ntmps63
    go_wp2_with fail
    (go_at_call 64; refine (rplain_is _ _ HN.out _ HP.out _).mono ?_; rintro e w2 ⟨rfl, rfl⟩)
    go_wp2_with fail
    (go_at_call 91; refine (hex_int (c / 16) _ (by rw [HD.out]; rfl) (by omega) _).mono ?_; rintro e w2 ⟨rfl, rfl⟩)
    go_wp2_with fail
    (go_at_call 91; refine (hex_int (c % 16) _ (by rw [HM.out]; rfl) (by omega) _).mono ?_; rintro e w2 ⟨rfl, rfl⟩)
    go_wp2_with fail
    go_ret
    unfold EPost
    rw [HL.out]
    exact ⟨by simp; first | rfl | exact ba_ext (by simp), (Ow.refl _).alloc _⟩
end Go.Proofs.YtaojogaakhidhaaGreatDoor

/- Hexadecimal digits written: strconv.FormatUint, ops.hex, the reference's hex. -/
import Derived.Test.YtaojogaakhidhaaDoorOpFmt
import Derived.Test.YtaojogaakhidhaaDoorShelf
namespace Go.Proofs.YtaojogaakhidhaaDoor
open Go.RowKit
open Sc (hexD hexL)

set_option maxHeartbeats 1000000 in
theorem ifu16 (v : Nat) (hv : v < 18446744073709551616) (u : ByteArray) (hu : u.data.toList = hexL v) (w : World) (hd : Db w) :
    Calls Tryd.prog 28 #[.int .u64 v, .int .i64 16] w fun e w' => e = .returned (.string u) ∧ Ow w w' := by
  have HU := Lib.hid hu
  have HD := Lib.hid hd
  clear hu hd
  go_enter Tryd.func28, Tryd.ntmps28
  go_wp2_with (go_at_call 46; refine (fmt16 v hv u HU.out _ HD.out).mono ?_; rintro e w1 ⟨rfl, hb1⟩)
  go_ret
  exact ⟨rfl, hb1⟩
set_option maxHeartbeats 1000000 in
theorem fu16 (v : Nat) (hv : v < 18446744073709551616) (u : ByteArray) (hu : u.data.toList = hexL v) (w : World) (hd : Db w) :
    Calls Tryd.prog 14 #[.int .u64 v, .int .i64 16] w fun e w' => e = .returned (.string u) ∧ Ow w w' := by
  have HU := Lib.hid hu
  have HD := Lib.hid hd
  clear hu hd
  go_enter Tryd.func14, Tryd.ntmps14
  go_wp2_with (go_at_call 28; refine (ifu16 v hv u HU.out _ HD.out).mono ?_; rintro e w1 ⟨rfl, hb1⟩)
  go_ret
  exact ⟨rfl, hb1⟩
set_option maxHeartbeats 1000000 in
theorem ifu10 (n : Nat) (hn : n < 100) (u : ByteArray) (hu : u.data.toList = Lib.decDigits n) (w : World) :
    Calls Tryd.prog 28 #[.int .u64 n, .int .i64 10] w fun e w' => e = .returned (.string u) ∧ w = w' := by
  have HU : Hid ((⟨(Lib.decDigits n).toArray⟩ : ByteArray) = u) := ba_ext (by rw [hu])
  have e1 : ((n : Int)) < 100 := by omega
  have e2 : IntKind.i64.wrap (n : Int) = (n : Int) := IntWalk.i64_in _ (by omega)
  clear hu
  go_enter Tryd.func28, Tryd.ntmps28
  go_wp2_with (go_at_call 43; refine (Tryd.internal_strconv_small n hn _).mono ?_; rintro e w1 ⟨rfl, rfl⟩)
  go_ret
  rw [HU.out]
  exact ⟨rfl, rfl⟩
set_option maxHeartbeats 1000000 in
theorem fu10 (n : Nat) (hn : n < 100) (u : ByteArray) (hu : u.data.toList = Lib.decDigits n) (w : World) :
    Calls Tryd.prog 14 #[.int .u64 n, .int .i64 10] w fun e w' => e = .returned (.string u) ∧ w = w' := by
  have HU := Lib.hid hu
  clear hu
  go_enter Tryd.func14, Tryd.ntmps14
  go_wp2_with (go_at_call 28; refine (ifu10 n hn u HU.out _).mono ?_; rintro e w1 ⟨rfl, rfl⟩)
  go_ret
  exact ⟨rfl, rfl⟩
set_option maxHeartbeats 1000000 in
theorem hex_w (v : Nat) (hv : v < 18446744073709551616) (u : ByteArray) (hu : u.data.toList = hexL v) (w : World) (hd : Db w) :
    Calls Tryd.prog 13 #[.int .u64 v] w fun e w' => e = .returned (.string u) ∧ Ow w w' := by
  have HU := Lib.hid hu
  have HD := Lib.hid hd
  clear hu hd
  go_enter Tryd.func13, Tryd.ntmps13
  go_wp2_with (go_at_call 14; refine (fu16 v hv u HU.out _ HD.out).mono ?_; rintro e w1 ⟨rfl, hb1⟩)
  go_ret
  exact ⟨rfl, hb1⟩
/-! The reference. -/
theorem ba_app' (s t : ByteArray) : (s ++ t).data.toList = s.data.toList ++ t.data.toList := by simp
theorem dig_ext : ∀ r, r < 16 → (⟨#[48, 49, 50, 51, 52, 53, 54, 55, 56, 57, 97, 98, 99, 100, 101, 102]⟩ : ByteArray).extract r (r + 1) = ⟨#[hexD r]⟩ := by
  intro r hr
  rcases (show r = 0 ∨ r = 1 ∨ r = 2 ∨ r = 3 ∨ r = 4 ∨ r = 5 ∨ r = 6 ∨ r = 7 ∨ r = 8 ∨ r = 9 ∨ r = 10 ∨ r = 11 ∨ r = 12 ∨ r = 13 ∨ r = 14 ∨ r = 15 by omega) with rfl | rfl | rfl | rfl | rfl | rfl | rfl | rfl | rfl | rfl | rfl | rfl | rfl | rfl | rfl | rfl
  all_goals decide +kernel
set_option maxRecDepth 100000 in
set_option maxHeartbeats 4000000 in
theorem rhex_any (k : Nat) : ∀ (v : Nat) (u : ByteArray) (w : World), v < k → v < 18446744073709551616 → u.data.toList = hexL v → Calls Tryd.prog 16 #[.int .u64 v] w fun e w' => e = .returned (.string u) ∧ Ow w w' := by
  induction k with
  | zero => intro v u w h; omega
  | succ k ih =>
    intro v u w hk hv hu
    obtain ⟨r, hr⟩ : ∃ r, v % 16 = r := ⟨_, rfl⟩
    have hr16 : r < 16 := by omega
    have hx := dig_ext r hr16
    have hri : (v : Int) % 16 = (r : Int) := by omega
    have w1 : IntKind.u64.wrap ((r : Int) + 1) = (r : Int) + 1 := IntWalk.u64_in _ (by omega)
    by_cases h16 : v < 16
    · have HE : Hid ((⟨#[hexD r]⟩ : ByteArray) = u) := ba_ext (by rw [hu, Sc.hexL_small h16, ← hr, Nat.mod_eq_of_lt h16])
      have e1 : (v : Int) < 16 := by omega
      clear hu hr h16
      go_enter Tryd.func16, Tryd.ntmps16
      go_wp2_with fail
      go_ret
      rw [HE.out]
      exact ⟨rfl, Ow.refl _⟩
    · obtain ⟨t, ht⟩ : ∃ t : ByteArray, t.data.toList = hexL (v / 16) := ⟨⟨(hexL (v / 16)).toArray⟩, rfl⟩
      have HT := Lib.hid ht
      have HE : Hid (t ++ ⟨#[hexD r]⟩ = u) := ba_ext (by rw [ba_app', ht, hu, Sc.hexL_big h16, hr])
      have hts : t.size ≤ 16 := by rw [← ba_len, ht]; exact Sc.hexL_len 15 _ (by have h6 : (16 ^ (15 + 1) : Nat) = 18446744073709551616 := (by decide); omega)
      have e1 : ¬ (v : Int) < 16 := by omega
      have hq : v / 16 < k := by omega
      have hq2 : v / 16 < 18446744073709551616 := by omega
      clear hu hr h16 ht
      go_enter Tryd.func16, Tryd.ntmps16
      go_wp2_with (go_at_call 16; refine (ih (v / 16) t _ hq hq2 HT.out).mono ?_; rintro e w1 ⟨rfl, hb1⟩)
      go_ret
      rw [HE.out]
      exact ⟨rfl, hb1⟩
end Go.Proofs.YtaojogaakhidhaaDoor

/- Hexadecimal digits written: strconv.FormatUint, ops.hex, the reference's hex. internal/strconv.ParseUint at base 16. -/
import Derived.Test.YtaojogaakhidhaaGreatDoorOpFmt
import Derived.Test.YtaojogaakhidhaaGreatDoorShelf
import Derived.Test.YtaojogaakhidhaaGreatDoorQ2
import Derived.Test.YtaojogaakhidhaaGreatDoorOpPl
import Derived.Lib.ConvBytes
import Derived.Lib.AtoiErrMem
import Derived.IntWalk
import Derived.WalkSmall
import Derived.BigCall
import Derived.BigGuard
import Derived.Laws.Closers25
import Derived.Laws.Closers25b
namespace Go.Proofs.YtaojogaakhidhaaGreatDoor
open Go.RowKit
open Sc (hexD hexL)

set_option maxHeartbeats 1000000 in
theorem ifu16 (v : Nat) (hv : v < 18446744073709551616) (u : ByteArray) (hu : u.data.toList = hexL v) (w : World) (hd : Db w) :
    Calls Tryz.prog 52 #[.int .u64 v, .int .i64 16] w fun e w' => e = .returned (.string u) ∧ Ow w w' := by
  have HU := Lib.hid hu
  have HD := Lib.hid hd
  clear hu hd
  go_enter Tryz.func52, Tryz.ntmps52
  go_wp2_with (go_at_call 75; refine (fmt16 v hv u HU.out _ HD.out).mono ?_; rintro e w1 ⟨rfl, hb1⟩)
  go_ret
  exact ⟨rfl, hb1⟩
set_option maxHeartbeats 1000000 in
theorem fu16 (v : Nat) (hv : v < 18446744073709551616) (u : ByteArray) (hu : u.data.toList = hexL v) (w : World) (hd : Db w) :
    Calls Tryz.prog 31 #[.int .u64 v, .int .i64 16] w fun e w' => e = .returned (.string u) ∧ Ow w w' := by
  have HU := Lib.hid hu
  have HD := Lib.hid hd
  clear hu hd
  go_enter Tryz.func31, Tryz.ntmps31
  go_wp2_with (go_at_call 52; refine (ifu16 v hv u HU.out _ HD.out).mono ?_; rintro e w1 ⟨rfl, hb1⟩)
  go_ret
  exact ⟨rfl, hb1⟩
set_option maxHeartbeats 1000000 in
theorem ifu10 (n : Nat) (hn : n < 100) (u : ByteArray) (hu : u.data.toList = Lib.decDigits n) (w : World) :
    Calls Tryz.prog 52 #[.int .u64 n, .int .i64 10] w fun e w' => e = .returned (.string u) ∧ w = w' := by
  have HU : Hid ((⟨(Lib.decDigits n).toArray⟩ : ByteArray) = u) := ba_ext (by rw [hu])
  have e1 : ((n : Int)) < 100 := by omega
  have e2 : IntKind.i64.wrap (n : Int) = (n : Int) := IntWalk.i64_in _ (by omega)
  clear hu
  go_enter Tryz.func52, Tryz.ntmps52
  go_wp2_with (go_at_call 72; refine (Tryz.internal_strconv_small n hn _).mono ?_; rintro e w1 ⟨rfl, rfl⟩)
  go_ret
  rw [HU.out]
  exact ⟨rfl, rfl⟩
set_option maxHeartbeats 1000000 in
theorem fu10 (n : Nat) (hn : n < 100) (u : ByteArray) (hu : u.data.toList = Lib.decDigits n) (w : World) :
    Calls Tryz.prog 31 #[.int .u64 n, .int .i64 10] w fun e w' => e = .returned (.string u) ∧ w = w' := by
  have HU := Lib.hid hu
  clear hu
  go_enter Tryz.func31, Tryz.ntmps31
  go_wp2_with (go_at_call 52; refine (ifu10 n hn u HU.out _).mono ?_; rintro e w1 ⟨rfl, rfl⟩)
  go_ret
  exact ⟨rfl, rfl⟩
set_option maxHeartbeats 1000000 in
theorem hex_w (v : Nat) (hv : v < 18446744073709551616) (u : ByteArray) (hu : u.data.toList = hexL v) (w : World) (hd : Db w) :
    Calls Tryz.prog 30 #[.int .u64 v] w fun e w' => e = .returned (.string u) ∧ Ow w w' := by
  have HU := Lib.hid hu
  have HD := Lib.hid hd
  clear hu hd
  go_enter Tryz.func30, Tryz.ntmps30
  go_wp2_with (go_at_call 31; refine (fu16 v hv u HU.out _ HD.out).mono ?_; rintro e w1 ⟨rfl, hb1⟩)
  go_ret
  exact ⟨rfl, hb1⟩
/-! The reference. -/
theorem ba_app' (s t : ByteArray) : (s ++ t).data.toList = s.data.toList ++ t.data.toList := by simp
theorem dig_ext : ∀ r, r < 16 → (⟨#[48, 49, 50, 51, 52, 53, 54, 55, 56, 57, 97, 98, 99, 100, 101, 102]⟩ : ByteArray).extract r (r + 1) = ⟨#[hexD r]⟩ := by
  intro r hr
  rcases (show r = 0 ∨ r = 1 ∨ r = 2 ∨ r = 3 ∨ r = 4 ∨ r = 5 ∨ r = 6 ∨ r = 7 ∨ r = 8 ∨ r = 9 ∨ r = 10 ∨ r = 11 ∨ r = 12 ∨ r = 13 ∨ r = 14 ∨ r = 15 by omega) with rfl | rfl | rfl | rfl | rfl | rfl | rfl | rfl | rfl | rfl | rfl | rfl | rfl | rfl | rfl | rfl
  all_goals decide +kernel
set_option maxRecDepth 100000 in
set_option maxHeartbeats 4000000 in
theorem rhex_any (k : Nat) : ∀ (v : Nat) (u : ByteArray) (w : World), v < k → v < 18446744073709551616 → u.data.toList = hexL v → Calls Tryz.prog 48 #[.int .u64 v] w fun e w' => e = .returned (.string u) ∧ Ow w w' := by
  induction k with
  | zero => intro v u w h; omega
  | succ k ih =>
    intro v u w hk hv hu
    obtain ⟨r, hr⟩ : ∃ r, v % 16 = r := ⟨_, rfl⟩
    have hr16 : r < 16 := by omega
    have hx := dig_ext r hr16
    have hri : (v : Int) % 16 = (r : Int) := by omega
    have w1 : IntKind.u64.wrap ((r : Int) + 1) = (r : Int) + 1 := IntWalk.u64_in _ (by omega)
    by_cases h16 : v < 16
    · have HE : Hid ((⟨#[hexD r]⟩ : ByteArray) = u) := ba_ext (by rw [hu, Sc.hexL_small h16, ← hr, Nat.mod_eq_of_lt h16])
      have e1 : (v : Int) < 16 := by omega
      clear hu hr h16
      go_enter Tryz.func48, Tryz.ntmps48
      go_wp2_with fail
      go_ret
      rw [HE.out]
      exact ⟨rfl, Ow.refl _⟩
    · obtain ⟨t, ht⟩ : ∃ t : ByteArray, t.data.toList = hexL (v / 16) := ⟨⟨(hexL (v / 16)).toArray⟩, rfl⟩
      have HT := Lib.hid ht
      have HE : Hid (t ++ ⟨#[hexD r]⟩ = u) := ba_ext (by rw [ba_app', ht, hu, Sc.hexL_big h16, hr])
      have hts : t.size ≤ 16 := by rw [← ba_len, ht]; exact Sc.hexL_len 15 _ (by have h6 : (16 ^ (15 + 1) : Nat) = 18446744073709551616 := (by decide); omega)
      have e1 : ¬ (v : Int) < 16 := by omega
      have hq : v / 16 < k := by omega
      have hq2 : v / 16 < 18446744073709551616 := by omega
      clear hu hr h16 ht
      go_enter Tryz.func48, Tryz.ntmps48
      go_wp2_with (go_at_call 48; refine (ih (v / 16) t _ hq hq2 HT.out).mono ?_; rintro e w1 ⟨rfl, hb1⟩)
      go_ret
      rw [HE.out]
      exact ⟨rfl, hb1⟩
end Go.Proofs.YtaojogaakhidhaaGreatDoor
namespace Go.Proofs.YtaojogaakhidhaaGreatDoor
open Go.RowKit
open Sc (hexC hexV hexFrom)

theorem hexFrom_ge : ∀ (l : List UInt8) (a : Nat), a ≤ hexFrom a l
  | [], a => Nat.le_refl _
  | c :: l, a => by rw [Sc.hexFrom_cons]; have := hexFrom_ge l (a * 16 + hexV c); omega
def PuPost (l : List UInt8) (w : World) (e : Ending) (w' : World) : Prop :=
  e = .returned (if hexFrom 0 l < 18446744073709551616 then .tuple #[.int .u64 (hexFrom 0 l : Int), .nilIface] else .tuple #[.int .u64 18446744073709551615, .iface 142 (.int .i64 1)]) ∧ Ow w w'
theorem or32 (n : Nat) (h1 : 97 ≤ n) (h2 : n ≤ 102) : bits BinOp.or IntKind.u8 (n : Int) 32 = (n : Int) := by
  rcases (show n = 97 ∨ n = 98 ∨ n = 99 ∨ n = 100 ∨ n = 101 ∨ n = 102 by omega) with rfl | rfl | rfl | rfl | rfl | rfl <;> decide +kernel
set_option maxRecDepth 100000 in
set_option maxHeartbeats 8000000 in
theorem pu16 (t : ByteArray) (hne : t.size ≠ 0) (hs : t.size ≤ 9000) (hall : t.data.toList.all hexC = true) (w : World) :
    Calls Tryz.prog 87 #[.string t, .int .i64 16, .int .i64 64] w (PuPost t.data.toList w) := by
  have hemp := ba_full (s := t) (by omega)
  have hcv := Lib.run_convert_string_bytes (P := Tryz.prog) w 9 63 5 t (u := .string) Tryz.underlying9 Tryz.underlying63 Tryz.underlying5
  have hB : ∀ j, j < t.size → (Lib.bytesWorld w 5 t).cell? ⟨w.heap.size, j, none⟩ = some (.int .u8 (t.data.toList.getD j 0).toNat) := fun j hj => Lib.bytesWorld_cell w 5 t j hj
  have HO : Hid (Ow w (Lib.bytesWorld w 5 t)) := Lib.bytesWorld_below _ _ _
  obtain ⟨W1, hW1⟩ : ∃ W1, W1 = Lib.bytesWorld w 5 t := ⟨_, rfl⟩
  rw [← hW1] at hcv hB HO
  clear hW1
  obtain ⟨bs, hL⟩ : ∃ bs, bs = t.data.toList := ⟨_, rfl⟩
  have hLn : bs.length = t.size := by rw [hL, ba_len]
  rw [← hL] at hB hall ⊢
  clear hL
  have HAll := Lib.hid hall
  clear hall
  have hmv : IntKind.u64.wrap (IntKind.u64.wrap 18446744073709551616 - 1) = 18446744073709551615 := by
    rw [IntKind.wrap_u64, IntKind.wrap_u64]
    decide
  go_enter Tryz.func87, Tryz.ntmps87
  go_wp2
  go_loop [12, 13, 101] (fun vu vn vi => ∃ (k acc : Nat) (a : Int), vu = .bool false ∧ vn = .int .u64 a ∧ vi = .int .i64 k ∧ k ≤ t.size ∧ Hid (a = (acc : Int) ∧ acc < 18446744073709551616 ∧ hexFrom 0 bs = hexFrom acc (bs.drop k)))
    (fun _ _ vi => t.size - (intOf vi).toNat)
  case atStart => exact ⟨0, 0, 0, rfl, rfl, rfl, by omega, rfl, by omega, rfl⟩
  case round =>
    obtain ⟨k, acc, a, rfl, rfl, rfl, hk, hh⟩ := hrel
    obtain ⟨ha, hacc, hdec⟩ := hh.out
    clear hh
    have a0 : 0 ≤ a := by omega
    have a1 : a < 18446744073709551616 := by omega
    by_cases hkn : k < t.size
    · have hc := hB k hkn
      have hdrop : bs.drop k = bs[k]'(by omega) :: bs.drop (k + 1) := List.drop_eq_getElem_cons (by omega)
      have hget : bs.getD k 0 = bs[k]'(by omega) := by simp [List.getD, List.getElem?_eq_getElem (show k < bs.length by omega)]
      have hhx : hexC (bs[k]'(by omega)) = true := List.all_eq_true.1 HAll.out _ (List.getElem_mem _)
      rw [hdrop, Sc.hexFrom_cons] at hdec
      rw [hget] at hc
      generalize bs[k]'(by omega) = c at hc hdec hhx
      obtain ⟨n, hn⟩ : ∃ n, c.toNat = n := ⟨_, rfl⟩
      have hcase : (48 ≤ n ∧ n ≤ 57 ∧ hexV c = n - 48) ∨ (97 ≤ n ∧ n ≤ 102 ∧ hexV c = n - 87) := by
        have := Wd.all256 (p := fun c => !hexC c || (decide (48 ≤ c.toNat ∧ c.toNat ≤ 57 ∧ hexV c = c.toNat - 48) || decide (97 ≤ c.toNat ∧ c.toNat ≤ 102 ∧ hexV c = c.toNat - 87))) (by decide +kernel) c
        rw [hhx, hn] at this
        simpa using this
      rw [hn] at hc
      clear hB hdrop hget hhx hn
      have hv16 : hexV c < 16 := by omega
      generalize hexV c = d at hdec hcase hv16
      by_cases hcut : 1152921504606846976 ≤ acc
      · have HF : Hid (¬ hexFrom 0 bs < 18446744073709551616) := by
          rw [Hid, hdec]
          have := hexFrom_ge (bs.drop (k + 1)) (acc * 16 + d)
          omega
        have icut : 1152921504606846976 ≤ a := by omega
        clear hcut hacc ha hdec
        rcases hcase with ⟨d0, d1, hd⟩ | ⟨d0, d1, hd⟩
        · clear hd
          go_wp2
          go_ret2
          unfold PuPost
          rw [if_neg HF.out]
          exact ⟨rfl, HO.out⟩
        · have hor := or32 n d0 d1
          clear hd
          go_wp2
          go_ret2
          unfold PuPost
          rw [if_neg HF.out]
          exact ⟨rfl, HO.out⟩
      · have icut : a < 1152921504606846976 := by omega
        rcases hcase with ⟨d0, d1, hd⟩ | ⟨d0, d1, hd⟩
        · have HN : Hid (a * 16 + ((n : Int) - 48) = ((acc * 16 + d : Nat) : Int) ∧ acc * 16 + d < 18446744073709551616 ∧ hexFrom 0 bs = hexFrom (acc * 16 + d) (bs.drop (k + 1))) := Lib.hid ⟨by omega, by omega, hdec⟩
          have iov : a * 16 + ((n : Int) - 48) < 18446744073709551616 := by omega
          clear hcut hacc hdec ha hd
          go_wp2
          exact ⟨⟨k + 1, acc * 16 + d, a * 16 + ((n : Int) - 48), rfl, (by first | rfl | (congr 1; omega)), (by first | rfl | (congr 1; omega)), by omega, HN⟩, by simp [intOf]; omega⟩
        · have hor := or32 n d0 d1
          have HN : Hid (a * 16 + ((n : Int) - 97 + 10) = ((acc * 16 + d : Nat) : Int) ∧ acc * 16 + d < 18446744073709551616 ∧ hexFrom 0 bs = hexFrom (acc * 16 + d) (bs.drop (k + 1))) := Lib.hid ⟨by omega, by omega, hdec⟩
          have iov : a * 16 + ((n : Int) - 97 + 10) < 18446744073709551616 := by omega
          clear hcut hacc hdec ha hd
          go_wp2
          exact ⟨⟨k + 1, acc * 16 + d, a * 16 + ((n : Int) - 97 + 10), rfl, (by first | rfl | (congr 1; omega)), (by first | rfl | (congr 1; omega)), by omega, HN⟩, by simp [intOf]; omega⟩
    · have hkk : k = t.size := by omega
      subst hkk
      rw [List.drop_eq_nil_of_le (by omega)] at hdec
      have HF : Hid (hexFrom 0 bs = acc) := hdec
      have HA : Hid (acc < 18446744073709551616) := hacc
      subst ha
      clear hacc a0 a1 hdec
      go_wp2
      go_ret2
      unfold PuPost
      rw [HF.out, if_pos HA.out]
      exact ⟨rfl, HO.out⟩
end Go.Proofs.YtaojogaakhidhaaGreatDoor

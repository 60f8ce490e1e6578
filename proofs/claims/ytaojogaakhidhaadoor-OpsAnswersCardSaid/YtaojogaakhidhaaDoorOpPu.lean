/- internal/strconv.ParseUint at base 16. -/
import Derived.Test.YtaojogaakhidhaaDoorOpBx
import Derived.Test.YtaojogaakhidhaaDoorOpPl
import Derived.Lib.ConvBytes
import Derived.Lib.AtoiErrMem
import Derived.IntWalk
import Derived.WalkSmall
import Derived.BigCall
import Derived.BigGuard
import Derived.Laws.Closers25
import Derived.Laws.Closers25b
namespace Go.Proofs.YtaojogaakhidhaaDoor
open Go.RowKit
open Sc (hexC hexV hexFrom)

theorem hexFrom_ge : ∀ (l : List UInt8) (a : Nat), a ≤ hexFrom a l
  | [], a => Nat.le_refl _
  | c :: l, a => by rw [Sc.hexFrom_cons]; have := hexFrom_ge l (a * 16 + hexV c); omega
def PuPost (l : List UInt8) (w : World) (e : Ending) (w' : World) : Prop :=
  e = .returned (if hexFrom 0 l < 18446744073709551616 then .tuple #[.int .u64 (hexFrom 0 l : Int), .nilIface] else .tuple #[.int .u64 18446744073709551615, .iface 112 (.int .i64 1)]) ∧ Ow w w'
theorem or32 (n : Nat) (h1 : 97 ≤ n) (h2 : n ≤ 102) : bits BinOp.or IntKind.u8 (n : Int) 32 = (n : Int) := by
  rcases (show n = 97 ∨ n = 98 ∨ n = 99 ∨ n = 100 ∨ n = 101 ∨ n = 102 by omega) with rfl | rfl | rfl | rfl | rfl | rfl <;> decide +kernel
set_option maxRecDepth 100000 in
set_option maxHeartbeats 8000000 in
theorem pu16 (t : ByteArray) (hne : t.size ≠ 0) (hs : t.size ≤ 9000) (hall : t.data.toList.all hexC = true) (w : World) :
    Calls Tryd.prog 58 #[.string t, .int .i64 16, .int .i64 64] w (PuPost t.data.toList w) := by
  have hemp := ba_full (s := t) (by omega)
  have hcv := Lib.run_convert_string_bytes (P := Tryd.prog) w 9 63 5 t (u := .string) Tryd.underlying9 Tryd.underlying63 Tryd.underlying5
  have hB : ∀ j, j < t.size → (Lib.bytesWorld w 5 t).cell? ⟨w.heap.size, j, none⟩ = some (.int .u8 (t.data.toList.getD j 0).toNat) := fun j hj => Lib.bytesWorld_cell w 5 t j hj
  have HO : Hid (Ow w (Lib.bytesWorld w 5 t)) := Lib.bytesWorld_below _ _ _
  obtain ⟨W1, hW1⟩ : ∃ W1, W1 = Lib.bytesWorld w 5 t := ⟨_, rfl⟩
  rw [← hW1] at hcv hB HO
  clear hW1
  obtain ⟨bs, hL⟩ : ∃ bs, bs = t.data.toList := ⟨_, rfl⟩
  have hLn : bs.length = t.size := by rw [hL, ba_len]
  rw [← hL] at hB hall ⊢
  clear hL
  have HAll := Lib.hid hall
  clear hall
  have hmv : IntKind.u64.wrap (IntKind.u64.wrap 18446744073709551616 - 1) = 18446744073709551615 := by
    rw [IntKind.wrap_u64, IntKind.wrap_u64]
    decide
  go_enter Tryd.func58, Tryd.ntmps58
  go_wp2
  go_loop [12, 13, 101] (fun vu vn vi => ∃ (k acc : Nat) (a : Int), vu = .bool false ∧ vn = .int .u64 a ∧ vi = .int .i64 k ∧ k ≤ t.size ∧ Hid (a = (acc : Int) ∧ acc < 18446744073709551616 ∧ hexFrom 0 bs = hexFrom acc (bs.drop k)))
    (fun _ _ vi => t.size - (intOf vi).toNat)
  case atStart => exact ⟨0, 0, 0, rfl, rfl, rfl, by omega, rfl, by omega, rfl⟩
  case round =>
    obtain ⟨k, acc, a, rfl, rfl, rfl, hk, hh⟩ := hrel
    obtain ⟨ha, hacc, hdec⟩ := hh.out
    clear hh
    have a0 : 0 ≤ a := by omega
    have a1 : a < 18446744073709551616 := by omega
    by_cases hkn : k < t.size
    · have hc := hB k hkn
      have hdrop : bs.drop k = bs[k]'(by omega) :: bs.drop (k + 1) := List.drop_eq_getElem_cons (by omega)
      have hget : bs.getD k 0 = bs[k]'(by omega) := by simp [List.getD, List.getElem?_eq_getElem (show k < bs.length by omega)]
      have hhx : hexC (bs[k]'(by omega)) = true := List.all_eq_true.1 HAll.out _ (List.getElem_mem _)
      rw [hdrop, Sc.hexFrom_cons] at hdec
      rw [hget] at hc
      generalize bs[k]'(by omega) = c at hc hdec hhx
      obtain ⟨n, hn⟩ : ∃ n, c.toNat = n := ⟨_, rfl⟩
      have hcase : (48 ≤ n ∧ n ≤ 57 ∧ hexV c = n - 48) ∨ (97 ≤ n ∧ n ≤ 102 ∧ hexV c = n - 87) := by
        have := Wd.all256 (p := fun c => !hexC c || (decide (48 ≤ c.toNat ∧ c.toNat ≤ 57 ∧ hexV c = c.toNat - 48) || decide (97 ≤ c.toNat ∧ c.toNat ≤ 102 ∧ hexV c = c.toNat - 87))) (by decide +kernel) c
        rw [hhx, hn] at this
        simpa using this
      rw [hn] at hc
      clear hB hdrop hget hhx hn
      have hv16 : hexV c < 16 := by omega
      generalize hexV c = d at hdec hcase hv16
      by_cases hcut : 1152921504606846976 ≤ acc
      · have HF : Hid (¬ hexFrom 0 bs < 18446744073709551616) := by
          rw [Hid, hdec]
          have := hexFrom_ge (bs.drop (k + 1)) (acc * 16 + d)
          omega
        have icut : 1152921504606846976 ≤ a := by omega
        clear hcut hacc ha hdec
        rcases hcase with ⟨d0, d1, hd⟩ | ⟨d0, d1, hd⟩
        · clear hd
          go_wp2
          go_ret2
          unfold PuPost
          rw [if_neg HF.out]
          exact ⟨rfl, HO.out⟩
        · have hor := or32 n d0 d1
          clear hd
          go_wp2
          go_ret2
          unfold PuPost
          rw [if_neg HF.out]
          exact ⟨rfl, HO.out⟩
      · have icut : a < 1152921504606846976 := by omega
        rcases hcase with ⟨d0, d1, hd⟩ | ⟨d0, d1, hd⟩
        · have HN : Hid (a * 16 + ((n : Int) - 48) = ((acc * 16 + d : Nat) : Int) ∧ acc * 16 + d < 18446744073709551616 ∧ hexFrom 0 bs = hexFrom (acc * 16 + d) (bs.drop (k + 1))) := Lib.hid ⟨by omega, by omega, hdec⟩
          have iov : a * 16 + ((n : Int) - 48) < 18446744073709551616 := by omega
          clear hcut hacc hdec ha hd
          go_wp2
          exact ⟨⟨k + 1, acc * 16 + d, a * 16 + ((n : Int) - 48), rfl, (by first | rfl | (congr 1; omega)), (by first | rfl | (congr 1; omega)), by omega, HN⟩, by simp [intOf]; omega⟩
        · have hor := or32 n d0 d1
          have HN : Hid (a * 16 + ((n : Int) - 97 + 10) = ((acc * 16 + d : Nat) : Int) ∧ acc * 16 + d < 18446744073709551616 ∧ hexFrom 0 bs = hexFrom (acc * 16 + d) (bs.drop (k + 1))) := Lib.hid ⟨by omega, by omega, hdec⟩
          have iov : a * 16 + ((n : Int) - 97 + 10) < 18446744073709551616 := by omega
          clear hcut hacc hdec ha hd
          go_wp2
          exact ⟨⟨k + 1, acc * 16 + d, a * 16 + ((n : Int) - 97 + 10), rfl, (by first | rfl | (congr 1; omega)), (by first | rfl | (congr 1; omega)), by omega, HN⟩, by simp [intOf]; omega⟩
    · have hkk : k = t.size := by omega
      subst hkk
      rw [List.drop_eq_nil_of_le (by omega)] at hdec
      have HF : Hid (hexFrom 0 bs = acc) := hdec
      have HA : Hid (acc < 18446744073709551616) := hacc
      subst ha
      clear hacc a0 a1 hdec
      go_wp2
      go_ret2
      unfold PuPost
      rw [HF.out, if_pos HA.out]
      exact ⟨rfl, HO.out⟩
end Go.Proofs.YtaojogaakhidhaaDoor

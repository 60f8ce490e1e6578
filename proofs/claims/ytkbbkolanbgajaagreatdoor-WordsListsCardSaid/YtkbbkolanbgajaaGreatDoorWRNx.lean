/- The reference of chapter 1: next. -/
import Derived.Test.YtkbbkolanbgajaaGreatDoorWRPl
namespace Go.Proofs.YtkbbkolanbgajaaGreatDoor
open Go.RowKit
open Wd (natB valN)

theorem rep_at {n j : Nat} {a : List UInt8} {c : UInt8} (h : a = List.replicate n c) (hj : j < n) : a[j]? = some c := by
  subst h; rw [List.getElem?_replicate, if_pos hj]
theorem tail_at {p : List UInt8} {c d : UInt8} {m t : Nat} {a : List UInt8} (h : a = p ++ c :: List.replicate m d) (ht : 0 < t) (htm : t ≤ m) : a[p.length + t]? = some d := by
  subst h
  rw [List.getElem?_append_right (by omega)]
  obtain ⟨q, hq⟩ : ∃ q, p.length + t - p.length = q + 1 := ⟨t - 1, by omega⟩
  rw [hq, List.getElem?_cons_succ, List.getElem?_replicate, if_pos (by omega)]
theorem byte_at {s : ByteArray} {j : Nat} {c : UInt8} {n : Nat} (h : s.data.toList[j]? = some c) (hc : c.toNat = n) (hj : j < s.size) : s[j].toNat = n := by
  rw [ba_at s j hj] at h
  simp only [Option.some.injEq] at h
  rw [h, hc]
theorem rep_app (z : ByteArray) (k : Nat) (h : z.data.toList = List.replicate k 48) : (z ++ ⟨#[48]⟩).data.toList = List.replicate (k + 1) 48 := by
  rw [ba_app, h, List.replicate_succ']
theorem sz_one (z : ByteArray) (k : Nat) (h : z.size ≤ k) (c : UInt8) : (z ++ ⟨#[c]⟩).size ≤ k + 1 := by
  have e1 : (⟨#[c]⟩ : ByteArray).size = 1 := rfl
  rw [ByteArray.size_append, e1]; omega
def NxPost (s : ByteArray) (w : World) (e : Ending) (w' : World) : Prop := ∃ u : ByteArray, e = .returned (.string u) ∧ natB u.data.toList = true ∧ valN u.data.toList = valN s.data.toList + 1 ∧ u.size ≤ s.size + 1 ∧ Ow w w'
set_option maxRecDepth 100000 in
set_option maxHeartbeats 4000000 in
theorem next_is (a : ByteArray) (ha : natB a.data.toList = true) (w : World) (hsa : a.size ≤ 9000) :
    Calls Tryz.prog 61 #[.string a] w (NxPost a w) := by
  have HA := Lib.hid ha
  rcases Wd.nines_or a.data.toList with ⟨n, hn⟩ | ⟨p, c, m, hn, hc⟩
  · have hsz : a.size = n := by rw [← ba_len, hn, List.length_replicate]
    have HSz := Lib.hid hsz
    have HRep := Lib.hid hn
    have HF : Hid (natB (49 :: List.replicate n 48) = true ∧ valN (49 :: List.replicate n 48) = valN a.data.toList + 1) := by rw [Hid, hn]; exact Wd.next_nines n
    clear hn hsz ha
    go_enter Tryz.func61, Tryz.ntmps61
    go_wp2
    go_loopw [3] (fun i wr => ∃ k : Nat, k ≤ a.size ∧ i = .int .i64 ((k : Int) - 1) ∧ w = wr) (fun i _ => (intOf i + 1).toNat)
    case atStart => exact ⟨a.size, by omega, rfl, rfl⟩
    case round =>
      obtain ⟨k, hk, rfl, rfl⟩ := hrel
      by_cases hk0 : 0 < k
      · have hx : (a[k - 1]'(by omega)).toNat = 57 := byte_at (rep_at (j := k - 1) HRep.out (by have := HSz.out; omega)) rfl (by omega)
        have e1 : (0 : Int) ≤ (k : Int) - 1 := by omega
        have e2 : (1 : Int) ≤ (k : Int) := by omega
        have e3 : ((k : Int) - 1).toNat = k - 1 := by omega
        have e4 : (k : Int) - 1 < (a.size : Int) := by omega
        go_wp2
        go_roundw
        case rel => exact ⟨k - 1, by omega, by rw [show ((k - 1 : Nat) : Int) = (k : Int) - 1 by omega], by first | rfl | trivial⟩
        case measure => simp [intOf]; omega
      · obtain rfl : k = 0 := by omega
        clear hk0 hk
        go_wp2
        go_loopw [4, 5] (fun o i wr => ∃ (k : Nat) (z : ByteArray), k ≤ a.size ∧ i = .int .i64 k ∧ o = .string z ∧ z.data.toList = List.replicate k 48 ∧ z.size ≤ k ∧ w = wr) (fun _ i _ => a.size - (intOf i).toNat)
        case atStart => exact ⟨0, ⟨#[]⟩, by omega, rfl, rfl, rfl, by decide, rfl⟩
        case round =>
          obtain ⟨k, z, hk, rfl, rfl, hz, hzs, rfl⟩ := hrel
          have HZ := Lib.hid hz
          clear hz
          by_cases hlt : k < a.size
          · have el : decide (k < a.size) = true := by simpa using hlt
            go_wp2
            go_roundw
            case rel => exact ⟨k + 1, _, by omega, by go_num, rfl, rep_app z k HZ.out, sz_one z k hzs 48, by first | rfl | trivial⟩
            case measure => simp [intOf]; omega
          · have el : decide (k < a.size) = false := by simpa using hlt
            obtain rfl : k = a.size := by omega
            have HU : Hid (((⟨#[49]⟩ : ByteArray) ++ z).data.toList = 49 :: List.replicate n 48) := by rw [Hid, ba_app, HZ.out, HSz.out]; rfl
            have hus : ((⟨#[49]⟩ : ByteArray) ++ z).size ≤ a.size + 1 := by
              have e1 : (⟨#[49]⟩ : ByteArray).size = 1 := rfl
              rw [ByteArray.size_append, e1]; omega
            have HUs := Lib.hid hus
            clear hlt hus
            go_wp2
            go_ret
            exact ⟨_, rfl, by rw [HU.out]; exact HF.out.1, by rw [HU.out]; exact HF.out.2, HUs.out, Ow.refl _⟩
  · have hsz : a.size = p.length + 1 + m := by rw [← ba_len, hn]; simp; omega
    have hk : a.data.toList[p.length]? = some c := by rw [hn]; simp
    have HF := Wd.next_digit (by rw [← hn]; exact ha) hc
    rw [← hn] at HF
    have HF := Lib.hid HF
    have hd := (Wd.digB_iff c).1 (List.all_eq_true.1 (Wd.natB_parts ha).2.1 c (List.mem_of_getElem? hk))
    obtain ⟨x, hx⟩ : ∃ x : Nat, c.toNat = x := ⟨_, rfl⟩
    rw [hx] at hd
    have hx57 : x ≠ 57 := fun e => hc (UInt8.toNat_inj.1 (hx.trans e))
    have hcx : ((c + 1).toNat : Int) = (x : Int) + 1 := by
      rw [UInt8.toNat_add]
      have e1 : (1 : UInt8).toNat = 1 := rfl
      rw [e1, hx]
      omega
    have HPre : Hid ((a.extract 0 p.length).data.toList = p) := by
      have e : (a.extract 0 p.length).data.toList = (a.data.toList.drop 0).take (p.length - 0) := by simp only [ByteArray.data_extract, Array.toList_extract, List.extract_eq_take_drop]
      rw [Hid, e, List.drop_zero, Nat.sub_zero, hn, List.take_left]
    have hlen : p.length < a.size := by omega
    have hax : (a[p.length]'hlen).toNat = x := byte_at hk hx hlen
    have HRep := Lib.hid hn
    have HSz := Lib.hid hsz
    have w3 : IntKind.u8.wrap ((x : Int) + 1) = (x : Int) + 1 := IntWalk.u8_in _ (by omega)
    have hcv := cv_one (c + 1) _ hcx
    have hcd := cv_drew (c + 1) _ hcx
    have HCv := Lib.hid hcv
    have HCd := Lib.hid hcd
    have HW3 := Lib.hid w3
    clear hn hk hc hx hcx hcv hcd w3 ha
    go_enter Tryz.func61, Tryz.ntmps61
    go_wp2
    go_loopw [3] (fun i wr => ∃ t : Nat, t ≤ m ∧ i = .int .i64 ((p.length + t : Nat) : Int) ∧ w = wr) (fun i _ => (intOf i).toNat)
    case atStart => exact ⟨m, by omega, congrArg (Value.int .i64) (by have := HSz.out; omega), rfl⟩
    case round =>
      obtain ⟨t, ht, rfl, rfl⟩ := hrel
      by_cases ht0 : 0 < t
      · have htl : p.length + t < a.size := by omega
        have hxt : (a[p.length + t]'htl).toNat = 57 := byte_at (tail_at HRep.out ht0 ht) rfl htl
        have e1 : (0 : Int) ≤ ((p.length + t : Nat) : Int) := by omega
        have e4 : ((p.length + t : Nat) : Int) < (a.size : Int) := by omega
        have e3 : ((p.length + t : Nat) : Int).toNat = p.length + t := by omega
        go_wp2
        go_roundw
        case rel => exact ⟨t - 1, by omega, congrArg (Value.int .i64) (by omega), by first | rfl | trivial⟩
        case measure => simp [intOf]; omega
      · obtain rfl : t = 0 := by omega
        have e57 : ((x : Int) == 57) = false := by rw [beq_eq_false_iff_ne]; omega
        have e1 : (0 : Int) ≤ (p.length : Int) := by omega
        have e4 : (p.length : Int) < (a.size : Int) := by omega
        have e5 : (p.length : Int) ≤ (a.size : Int) := by omega
        have eAdd : ((p.length + 0 : Nat) : Int) = (p.length : Int) := by omega
        clear ht0 ht
        go_wp2
        go_loopw [4, 5] (fun o i wr => ∃ (q : Nat) (z : ByteArray), q ≤ m ∧ i = .int .i64 ((p.length + 1 + q : Nat) : Int) ∧ o = .string z ∧ z.data.toList = List.replicate q 48 ∧ z.size ≤ q ∧ w = wr) (fun _ i _ => a.size - (intOf i).toNat)
        case atStart => exact ⟨0, ⟨#[]⟩, by omega, by go_num, rfl, rfl, by decide, rfl⟩
        case round =>
          obtain ⟨q, z, hq, rfl, rfl, hz, hzs, rfl⟩ := hrel
          have HZ := Lib.hid hz
          clear hz
          by_cases hlt : q < m
          · have hl2 : p.length + 1 + q < a.size := by have := HSz.out; omega
            have el : decide (p.length + 1 + q < a.size) = true := by simpa using hl2
            have el2 : ((p.length + 1 + q : Nat) : Int) < (a.size : Int) := by omega
            go_wp2
            go_roundw
            case rel => exact ⟨q + 1, _, by omega, congrArg (Value.int .i64) (by omega), rfl, rep_app z q HZ.out, sz_one z q hzs 48, by first | rfl | trivial⟩
            case measure => simp [intOf]; omega
          · obtain rfl : q = m := by omega
            have hl2 : ¬ p.length + 1 + q < a.size := by have := HSz.out; omega
            have el : decide (p.length + 1 + q < a.size) = false := by simpa using hl2
            have el2 : ¬ ((p.length + 1 + q : Nat) : Int) < (a.size : Int) := by omega
            have HU : Hid (((a.extract 0 p.length ++ ⟨#[c + 1]⟩) ++ z).data.toList = p ++ (c + 1) :: List.replicate q 48) := by rw [Hid, ba_app, ba_app, HZ.out, HPre.out]; simp
            have hus : ((a.extract 0 p.length ++ ⟨#[c + 1]⟩) ++ z).size ≤ a.size + 1 := by
              have e1 : (⟨#[c + 1]⟩ : ByteArray).size = 1 := rfl
              rw [ByteArray.size_append, ByteArray.size_append, e1, ByteArray.size_extract]; omega
            have HUs := Lib.hid hus
            have hcv := HCv.out
            have hcd := HCd.out
            have w3 := HW3.out
            clear hlt hus
            go_wp2_with fail
            go_region_with (fail)
            all_goals
              go_wp2
              go_ret
              first
                | exact ⟨_, rfl, by rw [HU.out]; exact HF.out.1, by rw [HU.out]; exact HF.out.2, HUs.out, ((Ow.refl _).drew).alloc _⟩
                | exact ⟨_, rfl, by rw [HU.out]; exact HF.out.1, by rw [HU.out]; exact HF.out.2, HUs.out, ((Ow.refl _).alloc _).drew⟩
end Go.Proofs.YtkbbkolanbgajaaGreatDoor

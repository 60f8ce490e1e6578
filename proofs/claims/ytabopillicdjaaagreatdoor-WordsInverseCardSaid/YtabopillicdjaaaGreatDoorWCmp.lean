/- Package words: compare, follows. -/
import Derived.Test.YtabopillicdjaaaGreatDoorWRDig
import Derived.Test.YtabopillicdjaaaGreatDoorWPl2
namespace Go.Proofs.YtabopillicdjaaaGreatDoor
open Go.RowKit
open Wd (cmpI natB valN)

theorem cmp_is (a b : ByteArray) (c : Int) (hc : cmpI a.data.toList b.data.toList = c) (w : World) (ha : a.size ≤ 100000) (hb : b.size ≤ 100000) :
    Calls Tryz.prog 37 #[.string a, .string b] w fun e w' => e = .returned (.int .i64 c) ∧ w = w' := by
  have HC := Lib.hid hc
  clear hc
  by_cases hl : a.size = b.size
  · have HF : Hid (Lib.compareBytes a.data.toList b.data.toList = c) := by
      have := HC.out
      unfold cmpI at this
      rwa [if_neg (by rw [ba_len, ba_len]; simpa using hl)] at this
    have e1 : ((a.size : Int) != (b.size : Int)) = false := by rw [bne_eq_false_iff_eq]; omega
    clear hl
    go_enter Tryz.func37, Tryz.ntmps37
    go_wp2_with (go_at_call 62; refine (Tryz.strings_Compare _ _ _).mono ?_; rintro e w1 ⟨rfl, rfl⟩)
    go_ret
    rw [HF.out]
    exact ⟨rfl, rfl⟩
  · have HF : Hid ((a.size : Int) - (b.size : Int) = c) := by
      have := HC.out
      unfold cmpI at this
      rwa [if_pos (by rw [ba_len, ba_len]; exact hl), ba_len, ba_len] at this
    have e1 : ((a.size : Int) != (b.size : Int)) = true := by rw [bne_iff_ne]; omega
    clear hl
    go_enter Tryz.func37, Tryz.ntmps37
    go_wp2
    go_ret
    rw [← HF.out]
    exact ⟨rfl, rfl⟩
theorem ext_at (s : ByteArray) (k j : Nat) (hj : j < (s.extract 0 k).size) (hs : j < s.size) : (s.extract 0 k)[j] = s[j] := by
  have h1 := ba_at (s.extract 0 k) j hj
  have h2 := ba_at s j hs
  have e : (s.extract 0 k).data.toList = (s.data.toList.drop 0).take (k - 0) := by simp only [ByteArray.data_extract, Array.toList_extract, List.extract_eq_take_drop]
  have hjk : j < k := by rw [ByteArray.size_extract] at hj; omega
  rw [e, List.drop_zero, Nat.sub_zero, List.getElem?_take, if_pos hjk, h2] at h1
  exact (Option.some.inj h1).symm
set_option maxRecDepth 100000 in
theorem dlr_is (s : ByteArray) (hs : 0 < s.size) (hm : s.size ≤ 100000) (n : Nat) (hn : (s[s.size - 1]'(Nat.sub_lt hs Nat.one_pos)).toNat = n) (h8 : n < 128) (w : World) :
    Calls Tryz.prog 112 #[.string s] w fun e w' => e = .returned (.tuple #[.int .i32 (n : Int), .int .i64 1]) ∧ w = w' := by
  have e0 : ((s.size : Int) == 0) = false := by rw [beq_eq_false_iff_ne]; omega
  go_enter Tryz.func112, Tryz.ntmps112
  go_wp2
  go_ret2
  exact ⟨rfl, rfl⟩
theorem not9_is (n : Nat) (_h8 : n < 128) (w : World) : Calls Tryz.prog 64 #[.int .i32 (n : Int)] w fun e w' => e = .returned (.bool ((n : Int) != 57)) ∧ w = w' := by
  go_enter Tryz.func64, Tryz.ntmps64
  go_wp2
  go_ret
  exact ⟨rfl, rfl⟩
/-- The place of the last byte that is no nine; -1: there is none. -/
def LastNot (l : List UInt8) (i : Int) : Prop := (i = -1 ∧ ∀ x ∈ l, x = 57) ∨ ∃ k : Nat, i = k ∧ (∃ c, l[k]? = some c ∧ c ≠ 57) ∧ ∀ j c, k < j → l[j]? = some c → c = 57
set_option maxRecDepth 100000 in
set_option maxHeartbeats 1000000 in
theorem last_is (s : ByteArray) (i : Int) (hi : LastNot s.data.toList i) (hd : s.data.toList.all Wd.digB = true) (w : World) (hs : s.size ≤ 100000) :
    Calls Tryz.prog 96 #[.string s, .func (.func 64) #[] #[], .bool true] w fun e w' => e = .returned (.int .i64 i) ∧ w = w' := by
  have HI := Lib.hid hi
  have HD := Lib.hid hd
  clear hi hd
  go_enter Tryz.func96, Tryz.ntmps96
  go_wp2
  go_loopw [7, 8, 9] (fun v _ _ wr => ∃ k : Nat, k ≤ s.size ∧ v = .int .i64 k ∧ (∀ j c, k ≤ j → s.data.toList[j]? = some c → c = 57) ∧ w = wr) (fun v _ _ _ => (intOf v).toNat)
  case atStart => exact ⟨s.size, by omega, rfl, fun j c hj hc => by have := (List.getElem?_eq_some_iff.1 hc).1; rw [ba_len] at this; omega, rfl⟩
  case round =>
    obtain ⟨k, hk, rfl, hall, rfl⟩ := hrel
    have HA := Lib.hid hall
    clear hall
    by_cases hk0 : 0 < k
    · have ek : (0 : Int) < (k : Int) := by omega
      obtain ⟨n, hn⟩ : ∃ n : Nat, (s[k - 1]'(by omega)).toNat = n := ⟨_, rfl⟩
      have hdg : 48 ≤ n ∧ n ≤ 57 := by
        rw [← hn]
        exact (Wd.digB_iff _).1 (List.all_eq_true.1 HD.out _ (List.mem_of_getElem? (ba_at s (k - 1) (by omega))))
      have HN := Lib.hid hn
      have h8 : n < 128 := by omega
      have hx0 : 0 < (s.extract 0 k).size := by simp; omega
      have hxs : (s.extract 0 k).size ≤ 100000 := by simp; omega
      have hxl : ((s.extract 0 k)[(s.extract 0 k).size - 1]'(Nat.sub_lt hx0 Nat.one_pos)).toNat = n := by
        rw [← HN.out]
        have e : (s.extract 0 k).size - 1 = k - 1 := by simp; omega
        rw [ext_at s k _ _ (by omega)]
        simp only [e]
      have HX := Lib.hid hxl
      clear hn hxl hdg
      by_cases h57 : n = 57
      · have HA2 : Hid (∀ j c, k - 1 ≤ j → s.data.toList[j]? = some c → c = 57) := by
          intro j c hj hc
          by_cases hjk : j = k - 1
          · subst hjk
            rw [ba_at s (k - 1) (by omega)] at hc
            simp only [Option.some.injEq] at hc
            subst hc
            exact UInt8.toNat_inj.1 (HN.out.trans h57)
          · exact HA.out j c (by omega) hc
        subst h57
        go_wp2_with (first
          | (go_at_call 112; refine (dlr_is _ hx0 hxs 57 HX.out h8 _).mono ?_; rintro e w1 ⟨rfl, rfl⟩)
          | (go_at_call 64; refine (not9_is 57 h8 _).mono ?_; rintro e w2 ⟨rfl, rfl⟩))
        go_roundw
        case rel => exact ⟨k - 1, by omega, by rw [show ((k - 1 : Nat) : Int) = (k : Int) - 1 by omega], HA2.out, by first | rfl | trivial⟩
        case measure => simp [intOf]; omega
      · have HK : Hid (i = (k : Int) - 1) := by
          rcases HI.out with ⟨_, h2⟩ | ⟨q, h1, ⟨c, hc, hc7⟩, h2⟩
          · exact absurd (HN.out.symm.trans (congrArg UInt8.toNat (h2 _ (List.mem_of_getElem? (ba_at s (k - 1) (by omega)))))) h57
          · rcases Nat.lt_trichotomy q (k - 1) with h | h | h
            · exact absurd (HN.out.symm.trans (congrArg UInt8.toNat (h2 _ _ h (ba_at s (k - 1) (by omega))))) h57
            · rw [Hid, h1]; omega
            · exact absurd (HA.out q c (by omega) hc) hc7
        have e57 : ((n : Int) != 57) = true := by rw [bne_iff_ne]; omega
        clear h57
        go_wp2_with (first
          | (go_at_call 112; refine (dlr_is _ hx0 hxs n HX.out h8 _).mono ?_; rintro e w1 ⟨rfl, rfl⟩)
          | (go_at_call 64; refine (not9_is n h8 _).mono ?_; rintro e w2 ⟨rfl, rfl⟩))
        go_ret
        rw [HK.out]
        exact ⟨rfl, rfl⟩
    · obtain rfl : k = 0 := by omega
      have HK : Hid (i = -1) := by
        rcases HI.out with ⟨h1, _⟩ | ⟨q, h1, ⟨c, hc, hc7⟩, h2⟩
        · exact h1
        · exact absurd (HA.out q c (by omega) hc) hc7
      clear hk0
      go_wp2
      go_ret
      rw [HK.out]
      exact ⟨rfl, rfl⟩
theorem lastIdx_is (s : ByteArray) (i : Int) (hi : LastNot s.data.toList i) (hd : s.data.toList.all Wd.digB = true) (w : World) (hs : s.size ≤ 100000) :
    Calls Tryz.prog 63 #[.string s, .func (.func 64) #[] #[]] w fun e w' => e = .returned (.int .i64 i) ∧ w = w' := by
  have HI := Lib.hid hi
  have HD := Lib.hid hd
  clear hi hd
  go_enter Tryz.func63, Tryz.ntmps63
  go_wp2_with (go_at_call 96; refine (last_is _ i HI.out HD.out _ hs).mono ?_; rintro e w1 ⟨rfl, rfl⟩)
  go_ret
  exact ⟨rfl, rfl⟩
theorem zeros_is (n : Nat) (m : Int) (hm : m = n) (u : ByteArray) (hu : u.data.toList = List.replicate n 48) (hn : n ≤ 100000) (w : World) :
    Calls Tryz.prog 65 #[.string ⟨#[48]⟩, .int .i64 m] w fun e w' => e = .returned (.string u) ∧ Ow w w' := by
  subst hm
  have hr : ∀ k, Lib.repeatL [48] k = List.replicate k (48 : UInt8) := fun k => by
    induction k with
    | zero => rfl
    | succ k ih => rw [Lib.repeatL, ih, List.replicate_succ]; rfl
  refine (Tryz.strings_Repeat ⟨#[48]⟩ n w (by omega) (by show 1 * n ≤ _; omega)).mono fun e w' ⟨h1, h2⟩ => ⟨?_, h2⟩
  rw [h1]
  show Ending.returned (.string ⟨(Lib.repeatL [48] n).toArray⟩) = _
  rw [hr, ← hu, ba_mk]
set_option maxRecDepth 100000 in
set_option maxHeartbeats 4000000 in
theorem follows_is (a b : ByteArray) (r : Bool) (ha : natB a.data.toList = true) (hb : natB b.data.toList = true) (hr : decide (valN a.data.toList + 1 < valN b.data.toList) = r) (w : World) (hsa : a.size ≤ 9000) (hsb : b.size ≤ 9000) :
    Calls Tryz.prog 38 #[.string a, .string b] w fun e w' => e = .returned (.bool r) ∧ Ow w w' := by
  have HD : Hid (a.data.toList.all Wd.digB = true) := (Wd.natB_parts ha).2.1
  have HA := Lib.hid ha
  have HB := Lib.hid hb
  have HR := Lib.hid hr
  clear ha hb hr
  rcases Wd.nines_or a.data.toList with ⟨n, hn⟩ | ⟨p, c, m, hn, hc⟩
  · have HL : Hid (LastNot a.data.toList (-1)) := .inl ⟨rfl, fun x hx => by rw [hn] at hx; exact (List.mem_replicate.1 hx).2⟩
    have hsz : a.size = n := by rw [← ba_len, hn, List.length_replicate]
    obtain ⟨z, hz⟩ : ∃ z : ByteArray, z.data.toList = List.replicate n 48 := ⟨⟨(List.replicate n 48).toArray⟩, rfl⟩
    have hzs : z.size ≤ 9000 := by rw [← ba_len, hz, List.length_replicate]; omega
    have HZ := Lib.hid hz
    obtain ⟨v, hv⟩ : ∃ v, cmpI ((⟨#[49]⟩ : ByteArray) ++ z).data.toList b.data.toList = v := ⟨_, rfl⟩
    have HV := Lib.hid hv
    have HT : Hid (decide (v < 0) = r) := by
      have e : ((⟨#[49]⟩ : ByteArray) ++ z).data.toList = 49 :: List.replicate n 48 := by rw [ba_app, HZ.out]; rfl
      have h1 := Wd.next_nines n
      have h2 := Wd.cmp_lt (a := 49 :: List.replicate n 48) (b := b.data.toList) h1.1 HB.out
      rw [h1.2, ← hn, ← e, HV.out] at h2
      rw [Hid, ← HR.out]
      exact decide_eq_decide.2 h2
    have hz2 : ((⟨#[49]⟩ : ByteArray) ++ z).size ≤ 100000 := by
      have e1 : (⟨#[49]⟩ : ByteArray).size = 1 := rfl
      rw [ByteArray.size_append, e1]; omega
    have HZ2 := Lib.hid hz2
    have HSz := Lib.hid hsz
    have hn9 : n ≤ 9000 := by omega
    clear hn hz hv hz2 hsz
    go_enter Tryz.func38, Tryz.ntmps38
    go_wp2_with (first
      | (go_at_call 63; refine (lastIdx_is _ _ HL.out HD.out _ (by omega)).mono ?_; rintro e w1 ⟨rfl, rfl⟩)
      | (go_at_call 65; refine (zeros_is n _ (by have := HSz.out; omega) z HZ.out (by omega) _).mono ?_; rintro e w2 ⟨rfl, hb2⟩)
      | (go_at_call 37; refine (cmp_is _ _ v HV.out _ HZ2.out (by omega)).mono ?_; rintro e w3 ⟨rfl, rfl⟩))
    go_ret
    rw [← HT.out]
    exact ⟨rfl, hb2⟩
  · have hk : a.data.toList[p.length]? = some c := by rw [hn]; simp
    have hlen : p.length < a.size := by rw [← ba_len]; exact (List.getElem?_eq_some_iff.1 hk).1
    have hsz : a.size = p.length + 1 + m := by rw [← ba_len, hn]; simp; omega
    have HL : Hid (LastNot a.data.toList (p.length : Int)) := .inr ⟨p.length, rfl, ⟨c, hk, hc⟩, fun j d hj hd => by
      rw [hn, List.getElem?_append_right (by omega)] at hd
      obtain ⟨q, hq⟩ : ∃ q, j - p.length = q + 1 := ⟨j - p.length - 1, by omega⟩
      rw [hq, List.getElem?_cons_succ] at hd
      exact (List.mem_replicate.1 (List.mem_of_getElem? hd)).2⟩
    obtain ⟨z, hz⟩ : ∃ z : ByteArray, z.data.toList = List.replicate m 48 := ⟨⟨(List.replicate m 48).toArray⟩, rfl⟩
    have hzs : z.size ≤ 9000 := by rw [← ba_len, hz, List.length_replicate]; omega
    have HZ := Lib.hid hz
    obtain ⟨x, hx⟩ : ∃ x : Nat, (a[p.length]'hlen).toNat = x := ⟨_, rfl⟩
    have hac : a[p.length]'hlen = c := by
      have := ba_at a p.length hlen
      rw [hk] at this
      exact (Option.some.inj this).symm
    have hx9 : x ≤ 57 := by
      rw [← hx]
      exact ((Wd.digB_iff _).1 (List.all_eq_true.1 HD.out _ (List.mem_of_getElem? (ba_at a p.length hlen)))).2
    have hcx : ((c + 1).toNat : Int) = (x : Int) + 1 := by
      rw [← hx, hac, UInt8.toNat_add]
      have e1 : (1 : UInt8).toNat = 1 := rfl
      rw [e1]
      rw [hac] at hx
      omega
    have HPre : Hid ((a.extract 0 p.length).data.toList = p) := by
      have e : (a.extract 0 p.length).data.toList = (a.data.toList.drop 0).take (p.length - 0) := by simp only [ByteArray.data_extract, Array.toList_extract, List.extract_eq_take_drop]
      rw [Hid, e, List.drop_zero, Nat.sub_zero, hn, List.take_left]
    obtain ⟨v, hv⟩ : ∃ v, cmpI ((a.extract 0 p.length ++ ⟨#[c + 1]⟩) ++ z).data.toList b.data.toList = v := ⟨_, rfl⟩
    have HV := Lib.hid hv
    have HT : Hid (decide (v < 0) = r) := by
      have e : ((a.extract 0 p.length ++ ⟨#[c + 1]⟩) ++ z).data.toList = p ++ (c + 1) :: List.replicate m 48 := by rw [ba_app, ba_app, HZ.out, HPre.out]; simp
      have h0 := HA.out
      rw [hn] at h0
      have h1 := Wd.next_digit h0 hc
      have h2 := Wd.cmp_lt (b := b.data.toList) h1.1 HB.out
      rw [h1.2, ← hn, ← e, HV.out] at h2
      rw [Hid, ← HR.out]
      exact decide_eq_decide.2 h2
    have hz2 : ((a.extract 0 p.length ++ ⟨#[c + 1]⟩) ++ z).size ≤ 100000 := by
      have e1 : (⟨#[c + 1]⟩ : ByteArray).size = 1 := rfl
      rw [ByteArray.size_append, ByteArray.size_append, e1, ByteArray.size_extract]; omega
    have HZ2 := Lib.hid hz2
    have HSz := Lib.hid hsz
    have hm9 : m ≤ 9000 := by omega
    have hpl : p.length ≤ 9000 := by omega
    clear hn hz hv hz2 hsz hk hac hc
    have w3 : IntKind.u8.wrap ((x : Int) + 1) = (x : Int) + 1 := IntWalk.u8_in _ (by omega)
    have hcv := cv_one (c + 1) _ hcx
    have hcd := cv_drew (c + 1) _ hcx
    have hi1 : (p.length : Int) < (a.size : Int) := by omega
    have hi2 : (p.length : Int) ≤ (a.size : Int) := by omega
    clear hcx
    go_enter Tryz.func38, Tryz.ntmps38
    go_wp2_with (first
      | (go_at_call 63; refine (lastIdx_is _ _ HL.out HD.out _ (by omega)).mono ?_; rintro e w1 ⟨rfl, rfl⟩)
      | (go_at_call 65; refine (zeros_is m _ (by have := HSz.out; omega) z HZ.out (by omega) _).mono ?_; rintro e w2 ⟨rfl, hb2⟩))
    go_region_with (go_at_call 37; refine (cmp_is _ _ v HV.out _ HZ2.out (by omega)).mono ?_; rintro e w3 ⟨rfl, rfl⟩)
    all_goals
      go_wp2
      go_ret
      rw [← HT.out]
      first
        | exact ⟨rfl, (Ow.drew hb2).alloc _⟩
        | exact ⟨rfl, (Ow.alloc hb2 _).drew⟩
end Go.Proofs.YtabopillicdjaaaGreatDoor

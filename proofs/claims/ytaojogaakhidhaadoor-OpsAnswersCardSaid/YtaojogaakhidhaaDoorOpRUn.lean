/- The reference of chapter 28: digit, unhex. -/
import Derived.Test.YtaojogaakhidhaaDoorOpPa
namespace Go.Proofs.YtaojogaakhidhaaDoor
open Go.RowKit
open Sc (hexC hexV hexFrom unhexE unhexN)
def dgt (n : Nat) : Nat := if 48 ≤ n ∧ n ≤ 57 then n - 48 else if 97 ≤ n ∧ n ≤ 102 then n - 87 else 16
theorem dgt_hex (c : UInt8) : (hexC c = true → dgt c.toNat = hexV c ∧ dgt c.toNat ≤ 15) ∧ (hexC c = false → dgt c.toNat = 16) := by
  have h : ∀ n, n < 256 → (hexC (UInt8.ofNat n) = true → dgt (UInt8.ofNat n).toNat = hexV (UInt8.ofNat n) ∧ dgt (UInt8.ofNat n).toNat ≤ 15) ∧ (hexC (UInt8.ofNat n) = false → dgt (UInt8.ofNat n).toNat = 16) := by decide +kernel
  have := h c.toNat c.toNat_lt
  rwa [UInt8.ofNat_toNat] at this
set_option maxHeartbeats 1000000 in
theorem dgt_is (n : Nat) (hn : n < 256) (w : World) : Calls Tryd.prog 40 #[.int .u8 n] w fun e w' => e = .returned (.int .u64 (dgt n : Nat)) ∧ w = w' := by
  by_cases h1 : 48 ≤ n
  · by_cases h2 : n ≤ 57
    · have HD : Hid (dgt n = n - 48) := by rw [Hid, dgt, if_pos ⟨h1, h2⟩]
      have e1 : (48 : Int) ≤ n := by omega
      have e2 : (n : Int) ≤ 57 := by omega
      have e9 : ((n - 48 : Nat) : Int) = (n : Int) - 48 := by omega
      clear h1 h2
      go_enter Tryd.func40, Tryd.ntmps40
      go_wp2
      go_ret
      rw [HD.out]
      exact ⟨by rw [e9]; rfl, rfl⟩
    · by_cases h3 : 97 ≤ n
      · by_cases h4 : n ≤ 102
        · have HD : Hid (dgt n = n - 87) := by rw [Hid, dgt, if_neg (by omega), if_pos ⟨h3, h4⟩]
          have e1 : (48 : Int) ≤ n := by omega
          have e2 : ¬ (n : Int) ≤ 57 := by omega
          have e3 : (97 : Int) ≤ n := by omega
          have e4 : (n : Int) ≤ 102 := by omega
          have e9 : ((n - 87 : Nat) : Int) = (n : Int) - 97 + 10 := by omega
          clear h1 h2 h3 h4
          go_enter Tryd.func40, Tryd.ntmps40
          go_wp2
          go_ret
          rw [HD.out]
          exact ⟨by rw [e9]; rfl, rfl⟩
        · have HD : Hid (dgt n = 16) := by rw [Hid, dgt, if_neg (by omega), if_neg (by omega)]
          have e1 : (48 : Int) ≤ n := by omega
          have e2 : ¬ (n : Int) ≤ 57 := by omega
          have e3 : (97 : Int) ≤ n := by omega
          have e4 : ¬ (n : Int) ≤ 102 := by omega
          go_enter Tryd.func40, Tryd.ntmps40
          go_wp2
          go_ret
          rw [HD.out]
          exact ⟨rfl, rfl⟩
      · have HD : Hid (dgt n = 16) := by rw [Hid, dgt, if_neg (by omega), if_neg (by omega)]
        have e1 : (48 : Int) ≤ n := by omega
        have e2 : ¬ (n : Int) ≤ 57 := by omega
        have e3 : ¬ (97 : Int) ≤ n := by omega
        go_enter Tryd.func40, Tryd.ntmps40
        go_wp2
        go_ret
        rw [HD.out]
        exact ⟨rfl, rfl⟩
  · have HD : Hid (dgt n = 16) := by rw [Hid, dgt, if_neg (by omega), if_neg (by omega)]
    have e1 : ¬ (48 : Int) ≤ n := by omega
    have e3 : ¬ (97 : Int) ≤ n := by omega
    go_enter Tryd.func40, Tryd.ntmps40
    go_wp2
    go_ret
    rw [HD.out]
    exact ⟨rfl, rfl⟩
theorem wrapU (e : Int) : IntKind.u64.wrap e = e % 18446744073709551616 := by simp [IntKind.wrap, IntKind.signed, IntKind.bits]
set_option maxRecDepth 100000 in
set_option maxHeartbeats 4000000 in
theorem runhex_is (s : ByteArray) (n m : Int) (hn : unhexN s.data.toList = n) (hm : unhexE s.data.toList = m) (w : World) (hs : s.size ≤ 9000) :
    Calls Tryd.prog 23 #[.string s] w fun e w' => e = .returned (.tuple #[.int .u64 n, .int .i64 m]) ∧ Ow w w' := by
  by_cases h0 : s.size = 0
  · have HN : Hid (n = 0 ∧ m = 6) := by rw [Hid, ← hn, ← hm, ba_nil h0]; exact ⟨rfl, rfl⟩
    obtain ⟨rfl, rfl⟩ := HN.out
    have e0 := ba_empty h0
    clear h0 hn hm
    go_enter Tryd.func23, Tryd.ntmps23
    go_wp2
    go_ret2
    exact ⟨rfl, Ow.refl _⟩
  · have hp0 : 0 < s.size := by omega
    have e0 := ba_full (s := s) hp0
    have hne : s.data.toList.isEmpty = false := by rw [ba_cons s hp0]; rfl
    have hnn : s.data.toList ≠ [] := fun e => by rw [e] at hne; cases hne
    obtain ⟨q, hq⟩ : ∃ q : Nat, (s[0]'hp0).toNat = q := ⟨_, rfl⟩
    have hhead : s.data.toList.head? = some (s[0]'hp0) := by rw [ba_cons s hp0]; rfl
    have HH : Hid (s.data.toList.head? = some 48 ↔ q = 48) := by
      rw [Hid, hhead, Option.some.injEq, ← hq, ← UInt8.toNat_inj]; rfl
    by_cases hz : 1 < s.size ∧ q = 48
    · obtain ⟨z1, rfl⟩ := hz
      have hE : unhexE s.data.toList = 6 := by
        unfold Sc.unhexE
        rw [hne, HH.out.2 rfl, ba_len, decide_eq_true z1]
        simp
      have HN : Hid (n = 0 ∧ m = 6) := by rw [Hid, ← hn, ← hm, hE]; refine ⟨?_, rfl⟩; unfold Sc.unhexN; rw [hE]; rfl
      obtain ⟨rfl, rfl⟩ := HN.out
      have z2 : (1 : Int) < (s.size : Int) := by omega
      clear h0 hn hm hne hnn hE hhead
      go_enter Tryd.func23, Tryd.ntmps23
      go_wp2
      go_ret2
      exact ⟨rfl, Ow.refl _⟩
    · have hzz : (decide (1 < s.data.toList.length) && s.data.toList.head? == some 48) = false := by
        rw [← Bool.not_eq_true, Bool.and_eq_true, decide_eq_true_eq, beq_iff_eq, HH.out, ba_len]; exact hz
      have HE : Hid (unhexE s.data.toList = if s.data.toList.all hexC = true then (if 16 < s.data.toList.length then 7 else 0) else 6) := by
        rw [Hid]; unfold Sc.unhexE
        rw [hne, hzz]
        cases s.data.toList.all hexC <;> simp
      have HNM := Lib.hid (And.intro hn hm)
      have hzc : s.size = 1 ∨ (1 < s.size ∧ ((q : Int) == 48) = false) := by
        rcases Nat.lt_or_ge 1 s.size with h | h
        · exact .inr ⟨h, beq_eq_false_iff_ne.2 (fun e => hz ⟨h, by omega⟩)⟩
        · exact .inl (by omega)
      clear hz hzz hhead hne hnn hn hm h0
      rcases hzc with hz1 | ⟨hz1, hz2⟩
      · have z2 : ¬ (1 : Int) < (s.size : Int) := by omega
        go_enter Tryd.func23, Tryd.ntmps23
        go_wp2_with fail
        clear hz1 z2
        go_loopw [4, 5] (fun xv ix wr => ∃ (i x : Nat), i ≤ s.size ∧ xv = .int .u64 x ∧ ix = .int .i64 i ∧ Hid ((s.data.toList.take i).all hexC = true) ∧ Hid (x = hexFrom 0 (s.data.toList.take i) % 18446744073709551616) ∧ w = wr) (fun _ ix _ => s.size - (intOf ix).toNat)
        case atStart => exact ⟨0, 0, by omega, rfl, rfl, by simp [Hid], by simp [Hid, hexFrom], rfl⟩
        case round =>
          obtain ⟨i, x, hi, rfl, rfl, HA, HX, rfl⟩ := hrel
          by_cases hlt : i < s.size
          · obtain ⟨c, hc⟩ : ∃ c, c = s[i] := ⟨_, rfl⟩
            obtain ⟨k, hk⟩ : ∃ k : Nat, s[i].toNat = k := ⟨_, rfl⟩
            have hk8 : k < 256 := by rw [← hk]; exact s[i].toNat_lt
            have el : decide (i < s.size) = true := by simpa using hlt
            have hcs : s.data.toList[i]? = some c := by rw [hc]; exact ba_at s i hlt
            have htk : s.data.toList.take (i + 1) = s.data.toList.take i ++ [c] := by rw [List.take_add_one, hcs]; rfl
            have HDg := Lib.hid (fun W => dgt_is k hk8 W)
            obtain ⟨d, hd⟩ : ∃ d, dgt k = d := ⟨_, rfl⟩
            rw [hd] at HDg
            have hck : c.toNat = k := by rw [hc, hk]
            cases hx : hexC c with
            | false =>
              have hd16 : d = 16 := by rw [← hd, ← hck]; exact (dgt_hex c).2 hx
              subst hd16
              have HR : Hid (n = 0 ∧ m = 6) := by
                have hal : s.data.toList.all hexC = false := by
                  rw [← Bool.not_eq_true, List.all_eq_true]
                  intro h
                  rw [h c (List.mem_of_getElem? hcs)] at hx; cases hx
                have h6 : unhexE s.data.toList = 6 := by rw [HE.out, hal]; rfl
                rw [Hid, ← HNM.out.1, ← HNM.out.2, h6]
                exact ⟨by unfold Sc.unhexN; rw [h6]; rfl, rfl⟩
              obtain ⟨rfl, rfl⟩ := HR.out
              clear hc hcs htk hck hx hd
              go_wp2_with (go_at_call 40; refine (HDg.out _).mono ?_; rintro e W ⟨rfl, rfl⟩)
              go_ret2
              exact ⟨rfl, Ow.refl _⟩
            | true =>
              have hdv : d = hexV c ∧ d ≤ 15 := by rw [← hd, ← hck]; exact (dgt_hex c).1 hx
              obtain ⟨y, hy⟩ : ∃ y : Nat, 16 * x % 18446744073709551616 = y := ⟨_, rfl⟩
              obtain ⟨z, hzd⟩ : ∃ z : Nat, (y + d) % 18446744073709551616 = z := ⟨_, rfl⟩
              have w1 : IntKind.u64.wrap (16 * (x : Int)) = (y : Int) := by rw [wrapU]; omega
              have w2 : IntKind.u64.wrap ((y : Int) + (d : Int)) = (z : Int) := by rw [wrapU]; omega
              have hd15 : ¬ (15 : Int) < (d : Int) := by omega
              have HA2 : Hid ((s.data.toList.take (i + 1)).all hexC = true) := by rw [Hid, htk, List.all_append, HA.out]; simp [hx]
              have HX2 : Hid (z = hexFrom 0 (s.data.toList.take (i + 1)) % 18446744073709551616) := by
                rw [Hid, htk, Sc.hexFrom_snoc, ← hdv.1, ← hzd, ← hy, HX.out]; omega
              clear hc hcs htk hck hx hd hdv hy hzd
              go_wp2_with (go_at_call 40; refine (HDg.out _).mono ?_; rintro e W ⟨rfl, rfl⟩)
              go_roundw
              case rel => exact ⟨i + 1, z, by omega, rfl, by go_num, HA2, HX2, by first | rfl | trivial⟩
              case measure => simp [intOf]; omega
          · have el : decide (i < s.size) = false := by simpa using hlt
            have htk : s.data.toList.take i = s.data.toList := List.take_of_length_le (by rw [ba_len]; omega)
            have hal := HA.out
            have hxx := HX.out
            rw [htk] at hal hxx
            have hEE := HE.out
            rw [if_pos hal] at hEE
            by_cases h16 : 16 < s.size
            · have HR : Hid (n = 0 ∧ m = 7) := by
                rw [if_pos (by rw [ba_len]; exact h16)] at hEE
                rw [Hid, ← HNM.out.1, ← HNM.out.2, hEE]
                exact ⟨by unfold Sc.unhexN; rw [hEE]; rfl, rfl⟩
              obtain ⟨rfl, rfl⟩ := HR.out
              have e16 : (16 : Int) < (s.size : Int) := by omega
              clear htk hal hxx hEE hlt
              go_wp2_with fail
              go_ret2
              exact ⟨rfl, Ow.refl _⟩
            · have HR : Hid (n = (x : Int) ∧ m = 0) := by
                rw [if_neg (by rw [ba_len]; exact h16)] at hEE
                rw [Hid, ← HNM.out.1, ← HNM.out.2, hEE]
                refine ⟨?_, rfl⟩
                have hlt2 := Sc.hexFrom_lt s.data.toList 0 0 hal (by omega)
                have hpw : (16 : Nat) ^ (0 + s.data.toList.length) ≤ 16 ^ 16 := Nat.pow_le_pow_right (by omega) (by rw [ba_len]; omega)
                have hpe : (16 : Nat) ^ 16 = 18446744073709551616 := by decide
                unfold Sc.unhexN
                rw [if_pos hEE, hxx, Nat.mod_eq_of_lt (by omega)]
              obtain ⟨rfl, rfl⟩ := HR.out
              have e16 : ¬ (16 : Int) < (s.size : Int) := by omega
              clear htk hal hxx hEE hlt
              go_wp2_with fail
              go_ret2
              exact ⟨rfl, Ow.refl _⟩
      · have z2 : (1 : Int) < (s.size : Int) := by omega
        go_enter Tryd.func23, Tryd.ntmps23
        go_wp2_with fail
        clear hz1 z2 hz2
        go_loopw [4, 5] (fun xv ix wr => ∃ (i x : Nat), i ≤ s.size ∧ xv = .int .u64 x ∧ ix = .int .i64 i ∧ Hid ((s.data.toList.take i).all hexC = true) ∧ Hid (x = hexFrom 0 (s.data.toList.take i) % 18446744073709551616) ∧ w = wr) (fun _ ix _ => s.size - (intOf ix).toNat)
        case atStart => exact ⟨0, 0, by omega, rfl, rfl, by simp [Hid], by simp [Hid, hexFrom], rfl⟩
        case round =>
          obtain ⟨i, x, hi, rfl, rfl, HA, HX, rfl⟩ := hrel
          by_cases hlt : i < s.size
          · obtain ⟨c, hc⟩ : ∃ c, c = s[i] := ⟨_, rfl⟩
            obtain ⟨k, hk⟩ : ∃ k : Nat, s[i].toNat = k := ⟨_, rfl⟩
            have hk8 : k < 256 := by rw [← hk]; exact s[i].toNat_lt
            have el : decide (i < s.size) = true := by simpa using hlt
            have hcs : s.data.toList[i]? = some c := by rw [hc]; exact ba_at s i hlt
            have htk : s.data.toList.take (i + 1) = s.data.toList.take i ++ [c] := by rw [List.take_add_one, hcs]; rfl
            have HDg := Lib.hid (fun W => dgt_is k hk8 W)
            obtain ⟨d, hd⟩ : ∃ d, dgt k = d := ⟨_, rfl⟩
            rw [hd] at HDg
            have hck : c.toNat = k := by rw [hc, hk]
            cases hx : hexC c with
            | false =>
              have hd16 : d = 16 := by rw [← hd, ← hck]; exact (dgt_hex c).2 hx
              subst hd16
              have HR : Hid (n = 0 ∧ m = 6) := by
                have hal : s.data.toList.all hexC = false := by
                  rw [← Bool.not_eq_true, List.all_eq_true]
                  intro h
                  rw [h c (List.mem_of_getElem? hcs)] at hx; cases hx
                have h6 : unhexE s.data.toList = 6 := by rw [HE.out, hal]; rfl
                rw [Hid, ← HNM.out.1, ← HNM.out.2, h6]
                exact ⟨by unfold Sc.unhexN; rw [h6]; rfl, rfl⟩
              obtain ⟨rfl, rfl⟩ := HR.out
              clear hc hcs htk hck hx hd
              go_wp2_with (go_at_call 40; refine (HDg.out _).mono ?_; rintro e W ⟨rfl, rfl⟩)
              go_ret2
              exact ⟨rfl, Ow.refl _⟩
            | true =>
              have hdv : d = hexV c ∧ d ≤ 15 := by rw [← hd, ← hck]; exact (dgt_hex c).1 hx
              obtain ⟨y, hy⟩ : ∃ y : Nat, 16 * x % 18446744073709551616 = y := ⟨_, rfl⟩
              obtain ⟨z, hzd⟩ : ∃ z : Nat, (y + d) % 18446744073709551616 = z := ⟨_, rfl⟩
              have w1 : IntKind.u64.wrap (16 * (x : Int)) = (y : Int) := by rw [wrapU]; omega
              have w2 : IntKind.u64.wrap ((y : Int) + (d : Int)) = (z : Int) := by rw [wrapU]; omega
              have hd15 : ¬ (15 : Int) < (d : Int) := by omega
              have HA2 : Hid ((s.data.toList.take (i + 1)).all hexC = true) := by rw [Hid, htk, List.all_append, HA.out]; simp [hx]
              have HX2 : Hid (z = hexFrom 0 (s.data.toList.take (i + 1)) % 18446744073709551616) := by
                rw [Hid, htk, Sc.hexFrom_snoc, ← hdv.1, ← hzd, ← hy, HX.out]; omega
              clear hc hcs htk hck hx hd hdv hy hzd
              go_wp2_with (go_at_call 40; refine (HDg.out _).mono ?_; rintro e W ⟨rfl, rfl⟩)
              go_roundw
              case rel => exact ⟨i + 1, z, by omega, rfl, by go_num, HA2, HX2, by first | rfl | trivial⟩
              case measure => simp [intOf]; omega
          · have el : decide (i < s.size) = false := by simpa using hlt
            have htk : s.data.toList.take i = s.data.toList := List.take_of_length_le (by rw [ba_len]; omega)
            have hal := HA.out
            have hxx := HX.out
            rw [htk] at hal hxx
            have hEE := HE.out
            rw [if_pos hal] at hEE
            by_cases h16 : 16 < s.size
            · have HR : Hid (n = 0 ∧ m = 7) := by
                rw [if_pos (by rw [ba_len]; exact h16)] at hEE
                rw [Hid, ← HNM.out.1, ← HNM.out.2, hEE]
                exact ⟨by unfold Sc.unhexN; rw [hEE]; rfl, rfl⟩
              obtain ⟨rfl, rfl⟩ := HR.out
              have e16 : (16 : Int) < (s.size : Int) := by omega
              clear htk hal hxx hEE hlt
              go_wp2_with fail
              go_ret2
              exact ⟨rfl, Ow.refl _⟩
            · have HR : Hid (n = (x : Int) ∧ m = 0) := by
                rw [if_neg (by rw [ba_len]; exact h16)] at hEE
                rw [Hid, ← HNM.out.1, ← HNM.out.2, hEE]
                refine ⟨?_, rfl⟩
                have hlt2 := Sc.hexFrom_lt s.data.toList 0 0 hal (by omega)
                have hpw : (16 : Nat) ^ (0 + s.data.toList.length) ≤ 16 ^ 16 := Nat.pow_le_pow_right (by omega) (by rw [ba_len]; omega)
                have hpe : (16 : Nat) ^ 16 = 18446744073709551616 := by decide
                unfold Sc.unhexN
                rw [if_pos hEE, hxx, Nat.mod_eq_of_lt (by omega)]
              obtain ⟨rfl, rfl⟩ := HR.out
              have e16 : ¬ (16 : Int) < (s.size : Int) := by omega
              clear htk hal hxx hEE hlt
              go_wp2_with fail
              go_ret2
              exact ⟨rfl, Ow.refl _⟩
end Go.Proofs.YtaojogaakhidhaaDoor

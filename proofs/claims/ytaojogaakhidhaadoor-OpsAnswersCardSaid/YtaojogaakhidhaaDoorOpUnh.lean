/- Hexadecimal digits read: strconv.ParseUint at base 16, ops.unhex. -/
import Derived.Test.YtaojogaakhidhaaDoorOpHex
import Derived.Test.YtaojogaakhidhaaDoorOpPu
import Derived.Test.YtaojogaakhidhaaDoorWDec
namespace Go.Proofs.YtaojogaakhidhaaDoor
open Go.RowKit
open Sc (hexC hexV hexFrom unhexE unhexN)

theorem hexFrom_big : ∀ (l : List UInt8) (a : Nat), a * 16 ^ l.length ≤ hexFrom a l
  | [], a => by simp [hexFrom]
  | c :: l, a => by
    rw [Sc.hexFrom_cons, List.length_cons]
    have h1 := hexFrom_big l (a * 16 + hexV c)
    have h2 : a * 16 ^ (l.length + 1) = (a * 16) * 16 ^ l.length := by rw [Nat.pow_succ]; rw [Nat.mul_assoc, Nat.mul_comm 16]
    rw [h2]
    exact Nat.le_trans (Nat.mul_le_mul_right _ (by omega)) h1
theorem hex_fits {l : List UInt8} (hn : l ≠ []) (ha : l.all hexC = true) (hz : ¬ (1 < l.length ∧ l.head? = some 48)) : hexFrom 0 l < 18446744073709551616 ↔ l.length ≤ 16 := by
  have e16 : (16 ^ 16 : Nat) = 18446744073709551616 := by decide
  constructor
  · intro h
    rcases Nat.lt_or_ge 16 l.length with hl | hl
    · exfalso
      cases l with
      | nil => exact hn rfl
      | cons c r =>
        simp only [List.all_cons, Bool.and_eq_true] at ha
        rw [List.length_cons] at hl hz
        have hc : c ≠ 48 := fun e => hz ⟨by omega, by rw [e]; rfl⟩
        have h1 : 1 ≤ hexV c := by
          have := Wd.all256 (p := fun c => !hexC c || c == 48 || decide (1 ≤ hexV c)) (by decide +kernel) c
          rw [ha.1, show (c == 48) = false by rw [beq_eq_false_iff_ne]; exact hc] at this
          simpa using this
        rw [Sc.hexFrom_cons] at h
        have h2 := hexFrom_big r (0 * 16 + hexV c)
        have h3 : 16 ^ 16 ≤ 16 ^ r.length := Nat.pow_le_pow_right (by decide) (by omega)
        have h4 : 16 ^ r.length ≤ (0 * 16 + hexV c) * 16 ^ r.length := Nat.le_mul_of_pos_left _ (by omega)
        omega
    · exact hl
  · intro h
    have := Sc.hexFrom_lt l 0 0 ha (by decide)
    rw [Nat.zero_add] at this
    have h5 : 16 ^ l.length ≤ 16 ^ 16 := Nat.pow_le_pow_right (by decide) h
    omega
theorem hex_contains (c : UInt8) : ([48, 49, 50, 51, 52, 53, 54, 55, 56, 57, 97, 98, 99, 100, 101, 102] : List UInt8).contains c = hexC c := by
  have := Wd.all256 (p := fun c => ([48, 49, 50, 51, 52, 53, 54, 55, 56, 57, 97, 98, 99, 100, 101, 102] : List UInt8).contains c == hexC c) (by decide +kernel) c
  simpa using this
theorem trimHex (t u : ByteArray) (h : u.data.toList = Lib.trimS t.data.toList [48, 49, 50, 51, 52, 53, 54, 55, 56, 57, 97, 98, 99, 100, 101, 102]) (w : World) (ht : t.size ≤ 9000) : Calls Tryd.prog 34 #[.string t, .string ⟨#[48, 49, 50, 51, 52, 53, 54, 55, 56, 57, 97, 98, 99, 100, 101, 102]⟩] w fun e w' => e = .returned (.string u) ∧ Below w.heap.size w w' := by
  refine (Tryd.strings_Trim t ⟨#[48, 49, 50, 51, 52, 53, 54, 55, 56, 57, 97, 98, 99, 100, 101, 102]⟩ w (by omega) (by decide) (ascii_of_all (by decide))).mono fun e1 w1 ⟨h1, h2⟩ => ⟨?_, h2⟩
  rw [h1]
  show Ending.returned (.string ⟨(Lib.trimS t.data.toList [48, 49, 50, 51, 52, 53, 54, 55, 56, 57, 97, 98, 99, 100, 101, 102]).toArray⟩) = _
  rw [← h, ba_mk]
def PuPub (l : List UInt8) (w : World) (e : Ending) (w' : World) : Prop :=
  (hexFrom 0 l < 18446744073709551616 → e = .returned (.tuple #[.int .u64 (hexFrom 0 l : Int), .nilIface])) ∧ (¬ hexFrom 0 l < 18446744073709551616 → ∃ T N, e = .returned (.tuple #[.int .u64 18446744073709551615, .iface T (.pointer (some ⟨N, 0, none⟩))])) ∧ Ow w w'
set_option maxHeartbeats 1000000 in
theorem pub16 (t : ByteArray) (hne : t.size ≠ 0) (hs : t.size ≤ 9000) (hall : t.data.toList.all hexC = true) (w : World) (hg : Gl w) :
    Calls Tryd.prog 35 #[.string t, .int .i64 16, .int .i64 64] w (PuPub t.data.toList w) := by
  have HA := Lib.hid hall
  obtain ⟨tp, p, hr⟩ := hg.rng
  have hcell : w.cell? ⟨2, 0, none⟩ = some (.iface tp p) := by
    have := World.var?_cell (show Tryd.prog.globalNamed "strconv.ErrRange" = some 2 by kernel_rfl) hr 0
    simpa using this
  have HC := Lib.hid hcell
  have HL := Lib.hid (lt_of_cell hcell)
  obtain ⟨v, hv⟩ : ∃ v, hexFrom 0 t.data.toList = v := ⟨_, rfl⟩
  have HV := Lib.hid hv
  clear hall hr hcell hv
  by_cases h : v < 18446744073709551616
  · have HP : ∀ w, Calls Tryd.prog 58 #[.string t, .int .i64 16, .int .i64 64] w fun e w' => e = .returned (.tuple #[.int .u64 (v : Int), .nilIface]) ∧ Ow w w' := fun w => by
      have := pu16 t hne hs HA.out w
      unfold PuPost at this
      rwa [HV.out, if_pos h] at this
    have H1 := Lib.hid HP
    have H2 := Lib.hid h
    clear HP h
    go_enter Tryd.func35, Tryd.ntmps35
    go_wp2_with (go_at_call 58; refine (H1.out _).mono ?_; rintro e w1 ⟨rfl, hb1⟩)
    go_ret2
    unfold PuPub
    rw [HV.out]
    exact ⟨fun _ => rfl, fun hn => absurd H2.out hn, hb1⟩
  · have HP : ∀ w, Calls Tryd.prog 58 #[.string t, .int .i64 16, .int .i64 64] w fun e w' => e = .returned (.tuple #[.int .u64 18446744073709551615, .iface 112 (.int .i64 1)]) ∧ Ow w w' := fun w => by
      have := pu16 t hne hs HA.out w
      unfold PuPost at this
      rwa [HV.out, if_neg h] at this
    have H1 := Lib.hid HP
    have H2 := Lib.hid h
    clear HP h
    go_enter Tryd.func35, Tryd.ntmps35
    go_wp2_with (first
      | (go_at_call 58; refine (H1.out _).mono ?_; rintro e w1 ⟨rfl, hb1⟩)
      | (go_at_call 50; refine (Tryd.strconv_toError_range _ t _ _ (.iface tp p) _ (by omega) ((hb1.cell (p := ⟨2, 0, none⟩) HL.out).trans HC.out) (.inr ⟨_, _, rfl⟩)).mono ?_; rintro e w2 ⟨N, rfl, _, _, hb2⟩))
    go_ret2
    unfold PuPub
    rw [HV.out]
    exact ⟨fun hn => absurd hn H2.out, fun _ => ⟨_, N, rfl⟩, hb1.then hb2⟩
set_option maxHeartbeats 2000000 in
theorem unhex_is (s : ByteArray) (n m : Int) (hn : unhexN s.data.toList = n) (hm : unhexE s.data.toList = m) (w : World) (hs : s.size ≤ 9000) (hg : Gl w) :
    Calls Tryd.prog 20 #[.string s] w fun e w' => e = .returned (.tuple #[.int .u64 n, .int .i64 m]) ∧ Ow w w' := by
  have HG := Lib.hid hg
  clear hg
  by_cases h0 : s.size = 0
  · have HN : Hid (n = 0 ∧ m = 6) := by rw [Hid, ← hn, ← hm, ba_nil h0]; exact ⟨rfl, rfl⟩
    obtain ⟨rfl, rfl⟩ := HN.out
    have e0 := ba_empty h0
    clear h0 hn hm
    go_enter Tryd.func20, Tryd.ntmps20
    go_wp2
    go_ret2
    exact ⟨rfl, Ow.refl _⟩
  · have e0 := ba_full (s := s) (by omega)
    have hne : s.data.toList.isEmpty = false := by rw [ba_cons s (by omega)]; rfl
    obtain ⟨u, hu⟩ : ∃ u : ByteArray, u.data.toList = Lib.trimS s.data.toList [48, 49, 50, 51, 52, 53, 54, 55, 56, 57, 97, 98, 99, 100, 101, 102] := ⟨⟨(Lib.trimS s.data.toList [48, 49, 50, 51, 52, 53, 54, 55, 56, 57, 97, 98, 99, 100, 101, 102]).toArray⟩, rfl⟩
    have HU := Lib.hid hu
    clear hu
    cases ha : s.data.toList.all hexC with
    | false =>
      have hE : unhexE s.data.toList = 6 := by unfold Sc.unhexE; rw [hne, ha]; rfl
      have HN : Hid (n = 0 ∧ m = 6) := by rw [Hid, ← hn, ← hm, hE]; refine ⟨?_, rfl⟩; unfold Sc.unhexN; rw [hE]; rfl
      obtain ⟨rfl, rfl⟩ := HN.out
      have hu0 : u.toList.isEmpty = false := by
        rw [ba_toList, HU.out, List.isEmpty_eq_false_iff]
        refine trim_some ?_
        rw [← ha]
        congr 1; funext c; exact hex_contains c
      have hu1 : (!u.toList.isEmpty) = true := by rw [hu0]; rfl
      clear ha h0 hn hm hne hE
      go_enter Tryd.func20, Tryd.ntmps20
      go_wp2_with (go_at_call 34; refine (trimHex _ _ HU.out _ hs).mono ?_; rintro e w2 ⟨rfl, hb2⟩)
      go_ret2
      exact ⟨rfl, hb2⟩
    | true =>
      have HAl := Lib.hid ha
      have hu0 : u.toList.isEmpty = true := by
        rw [ba_toList, HU.out, List.isEmpty_iff]
        refine trim_all ?_
        rw [← ha]
        congr 1; funext c; exact hex_contains c
      have hp0 : 0 < s.size := by omega
      obtain ⟨q, hq⟩ : ∃ q : Nat, (s[0]'hp0).toNat = q := ⟨_, rfl⟩
      have hhead : s.data.toList.head? = some (s[0]'hp0) := by rw [ba_cons s (by omega)]; rfl
      have HH : Hid (s.data.toList.head? = some 48 ↔ q = 48) := by
        rw [Hid, hhead, Option.some.injEq, ← hq, ← UInt8.toNat_inj]; rfl
      by_cases hz : 1 < s.size ∧ q = 48
      · obtain ⟨z1, rfl⟩ := hz
        have hE : unhexE s.data.toList = 6 := by unfold Sc.unhexE; rw [hne, ha, HH.out.2 rfl, ba_len, decide_eq_true z1]; rfl
        have HN : Hid (n = 0 ∧ m = 6) := by rw [Hid, ← hn, ← hm, hE]; refine ⟨?_, rfl⟩; unfold Sc.unhexN; rw [hE]; rfl
        obtain ⟨rfl, rfl⟩ := HN.out
        have z2 : (1 : Int) < (s.size : Int) := by omega
        clear ha h0 hn hm hne hE hhead
        go_enter Tryd.func20, Tryd.ntmps20
        go_wp2_with (go_at_call 34; refine (trimHex _ _ HU.out _ hs).mono ?_; rintro e w2 ⟨rfl, hb2⟩)
        go_ret2
        exact ⟨rfl, hb2⟩
      · have hzz : ¬ (1 < s.data.toList.length ∧ s.data.toList.head? = some 48) := by rw [ba_len, HH.out]; exact hz
        have hfit := hex_fits (l := s.data.toList) (fun e => by rw [e] at hne; cases hne) ha hzz
        have hE : unhexE s.data.toList = if 16 < s.data.toList.length then 7 else 0 := by
          unfold Sc.unhexE
          rw [hne, ha]
          have : (decide (1 < s.data.toList.length) && s.data.toList.head? == some 48) = false := by
            rw [← Bool.not_eq_true, Bool.and_eq_true, decide_eq_true_eq, beq_iff_eq]; exact hzz
          rw [this]; rfl
        have HPb := Lib.hid (fun w hg => pub16 s h0 hs HAl.out w hg)
        by_cases hv : hexFrom 0 s.data.toList < 18446744073709551616
        · have HN : Hid (n = (hexFrom 0 s.data.toList : Int) ∧ m = 0) := by
            have : unhexE s.data.toList = 0 := by rw [hE, if_neg (by have := hfit.1 hv; omega)]
            rw [Hid, ← hn, ← hm]; refine ⟨?_, this⟩; unfold Sc.unhexN; rw [if_pos this]
          obtain ⟨rfl, rfl⟩ := HN.out
          have HV := Lib.hid hv
          by_cases hz1 : 1 < s.size
          · have z2 : (1 : Int) < (s.size : Int) := by omega
            have z3 : ((q : Int) == 48) = false := by rw [beq_eq_false_iff_ne]; omega
            clear ha h0 hn hm hne hE hhead hfit hzz hz hv
            go_enter Tryd.func20, Tryd.ntmps20
            go_wp2_with (first
              | (go_at_call 34; refine (trimHex _ _ HU.out _ hs).mono ?_; rintro e w2 ⟨rfl, hb2⟩)
              | (go_at_call 35; refine (HPb.out _ (HG.out.below hb2)).mono ?_; rintro e w3 ⟨he, _, hb3⟩; obtain rfl := he HV.out))
            go_ret2
            exact ⟨rfl, Ow.then hb2 hb3⟩
          · have z2 : decide ((1 : Int) < (s.size : Int)) = false := decide_eq_false (by omega)
            clear ha h0 hn hm hne hE hhead hfit hzz hz hv
            go_enter Tryd.func20, Tryd.ntmps20
            go_wp2_with (first
              | (go_at_call 34; refine (trimHex _ _ HU.out _ hs).mono ?_; rintro e w2 ⟨rfl, hb2⟩)
              | (go_at_call 35; refine (HPb.out _ (HG.out.below hb2)).mono ?_; rintro e w3 ⟨he, _, hb3⟩; obtain rfl := he HV.out))
            go_ret2
            exact ⟨rfl, Ow.then hb2 hb3⟩
        · have hl16 : 16 < s.size := by
            rcases Nat.lt_or_ge 16 s.size with h | h
            · exact h
            · exact absurd (hfit.2 (by rw [ba_len]; exact h)) hv
          have HN : Hid (n = 0 ∧ m = 7) := by
            have : unhexE s.data.toList = 7 := by rw [hE, if_pos (by rw [ba_len]; exact hl16)]
            rw [Hid, ← hn, ← hm]; refine ⟨?_, this⟩; unfold Sc.unhexN; rw [this]; rfl
          obtain ⟨rfl, rfl⟩ := HN.out
          have HV := Lib.hid hv
          have z2 : (1 : Int) < (s.size : Int) := by omega
          have z3 : ((q : Int) == 48) = false := by rw [beq_eq_false_iff_ne]; omega
          clear ha h0 hn hm hne hE hhead hfit hzz hz hv
          go_enter Tryd.func20, Tryd.ntmps20
          go_wp2_with (first
            | (go_at_call 34; refine (trimHex _ _ HU.out _ hs).mono ?_; rintro e w2 ⟨rfl, hb2⟩)
            | (go_at_call 35; refine (HPb.out _ (HG.out.below hb2)).mono ?_; rintro e w3 ⟨_, he, hb3⟩; obtain ⟨T, N, rfl⟩ := he HV.out))
          go_ret2
          exact ⟨rfl, Ow.then hb2 hb3⟩
end Go.Proofs.YtaojogaakhidhaaDoor

/- The reference of chapter 1: Digits. -/
import Derived.Test.YtaojogaakhidhaaDoorQ4
import Derived.Deep.RegionWith
import Derived.BigRegion
import Derived.IntWalk
namespace Go.Proofs.YtaojogaakhidhaaDoor
open Go.RowKit

theorem it_big {n q : Int} {b : UInt8} (h : n > 9 ∨ n < -9) (hq : Int.tdiv n 10 = q) (hb : (b.toNat : Int) = 48 + (n.natAbs % 10 : Nat)) : Lib.itoa n = Lib.itoa q ++ [b] := by
  have e : b = UInt8.ofNat (48 + n.natAbs % 10) := by
    apply UInt8.toNat_inj.1
    rw [Wd.dg_nat (by omega)]; omega
  rw [Wd.itoa_step h, hq, e]
theorem cv_one (b : UInt8) (x : Int) (hx : (b.toNat : Int) = x) (W : World) : (convert 63 9 (.slice (some ⟨W.heap.size, 0, none⟩) 1 1)).run Tryd.prog (W.alloc (.cells #[.int .u8 x] 5)) = .ok (.string ⟨#[b]⟩) (W.alloc (.cells #[.int .u8 x] 5)) := by
  subst hx
  exact conv_new W 63 9 5 Tryd.underlying63 Tryd.underlying5 Tryd.underlying9 [b] 1 1 rfl _ rfl
theorem cv_at (b : UInt8) (x : Int) (hx : (b.toNat : Int) = x) (W : World) (g : Nat) (hc : W.cell? ⟨g, 0, none⟩ = some (.int .u8 x)) : (convert 63 9 (.slice (some ⟨g, 0, none⟩) 1 1)).run Tryd.prog W = .ok (.string ⟨#[b]⟩) W := by
  subst hx
  refine run_convert_bytes_back _ 63 9 5 ⟨g, 0, none⟩ 1 [b] Tryd.underlying63 Tryd.underlying5 Tryd.underlying9 (fun j hj => ?_)
  match j, hj with
  | 0, _ => exact hc
theorem cv_drew (b : UInt8) (x : Int) (hx : (b.toNat : Int) = x) (W : World) : (convert 63 9 (.slice (some ⟨W.heap.size, 0, none⟩) 1 1)).run Tryd.prog (W.alloc (.cells #[.int .u8 x] 5)).drew = .ok (.string ⟨#[b]⟩) (W.alloc (.cells #[.int .u8 x] 5)).drew :=
  cv_at b x hx _ _ (cell_of_row _ _ 0 _ _ _ (heap_alloc_new W _))
theorem cv_then (b : UInt8) (x : Int) (hx : (b.toNat : Int) = x) {W w1 : World} (hb : Below (W.alloc (.cells #[.int .u8 x] 5)).drew.heap.size (W.alloc (.cells #[.int .u8 x] 5)).drew w1) : (convert 63 9 (.slice (some ⟨W.heap.size, 0, none⟩) 1 1)).run Tryd.prog w1 = .ok (.string ⟨#[b]⟩) w1 :=
  cv_at b x hx _ _ ((hb.cell (p := ⟨W.heap.size, 0, none⟩) (by show _ < (W.alloc _).heap.size; simp)).trans (cell_of_row _ _ 0 _ _ _ (heap_alloc_new W _)))
theorem dec_long : ∀ (k u : Nat), u < 10 ^ (k + 1) → (Lib.decDigits u).length ≤ k + 1
  | 0, u, h => by rw [Wd.dec_small (by simpa using h)]; simp
  | k + 1, u, h => by
    by_cases h9 : u < 10
    · rw [Wd.dec_small h9]; simp
    · rw [Wd.dec_big h9, List.length_append, List.length_singleton]
      have := dec_long k (u / 10) (by rw [Nat.pow_succ] at h; omega)
      omega
theorem itoa_le {n : Int} (he : Ends n n) : (Lib.itoa n).length ≤ 21 := by
  unfold Ends at he
  unfold Lib.itoa
  split
  · have := dec_long 19 n.natAbs (by omega)
    rw [List.length_cons]; omega
  · have := dec_long 19 n.toNat (by omega)
    omega
theorem ba_app (s t : ByteArray) : (s ++ t).data.toList = s.data.toList ++ t.data.toList := by simp
set_option maxRecDepth 100000 in
theorem rdig_one (n : Int) (u : ByteArray) (w : World) (h0 : 0 ≤ n) (h9 : n ≤ 9) (hu : u.data.toList = Lib.itoa n) : Calls Tryd.prog 15 #[.int .i64 n] w fun e w' => e = .returned (.string u) ∧ Ow w w' := by
  obtain ⟨b, hb⟩ : ∃ b : UInt8, (b.toNat : Int) = 48 + n := ⟨UInt8.ofNat (48 + n.toNat), by rw [Wd.dg_nat (by omega)]; omega⟩
  have eu : (⟨#[b]⟩ : ByteArray) = u := by
    refine ba_ext ?_
    rw [hu, Wd.itoa_one h0 h9]
    have e : b = UInt8.ofNat (48 + n.toNat) := by
      apply UInt8.toNat_inj.1
      rw [Wd.dg_nat (by omega)]; omega
    rw [e]
  have hcv := cv_one b _ hb
  have HE := Lib.hid eu
  clear eu hb hu
  have e1 : ¬ 9 < n := by omega
  have e2 : ¬ n < -9 := by omega
  have e3 : ¬ n < 0 := by omega
  go_enter Tryd.func15, Tryd.ntmps15
  go_wp2_with fail
  go_ret
  rw [HE.out]
  exact ⟨rfl, (Ow.refl _).alloc _⟩
set_option maxRecDepth 100000 in
set_option maxHeartbeats 4000000 in
theorem rdigits_any (k : Nat) : ∀ (n : Int) (u : ByteArray) (w : World), n.natAbs < k → Ends n n → u.data.toList = Lib.itoa n → Calls Tryd.prog 15 #[.int .i64 n] w fun e w' => e = .returned (.string u) ∧ Ow w w' := by
  induction k with
  | zero => intro n u w h; omega
  | succ k ih =>
    intro n u w hk he hu
    have HU := Lib.hid hu
    clear hu
    obtain ⟨hlo, hhi⟩ := he
    by_cases h9 : 9 < n
    · obtain ⟨q, hq⟩ : ∃ q, Int.tdiv n 10 = q := ⟨_, rfl⟩
      obtain ⟨r, hr⟩ : ∃ r, Int.tmod n 10 = r := ⟨_, rfl⟩
      have q1 : q = n / 10 := by rw [← hq]; exact Int.tdiv_eq_ediv_of_nonneg (by omega)
      have r1 : r = n % 10 := by rw [← hr]; exact Int.tmod_eq_emod_of_nonneg (by omega)
      have hr0 : 0 ≤ r := by omega
      have hr9 : r ≤ 9 := by omega
      have hqk : q.natAbs < k := by omega
      have HQ : Hid (Ends q q) := ⟨by omega, by omega⟩
      have w1 : IntKind.i64.wrap q = q := IntWalk.i64_in _ (by omega)
      have w2 : IntKind.i64.wrap (48 + r) = 48 + r := IntWalk.i64_in _ (by omega)
      have w3 : IntKind.u8.wrap (48 + r) = 48 + r := IntWalk.u8_in _ (by omega)
      obtain ⟨b, hb⟩ : ∃ b : UInt8, (b.toNat : Int) = 48 + r := ⟨UInt8.ofNat (48 + r.toNat), by rw [Wd.dg_nat (by omega)]; omega⟩
      have HF : Hid (Lib.itoa n = Lib.itoa q ++ [b]) := it_big (.inl h9) hq (by rw [hb]; omega)
      clear q1 r1
      obtain ⟨t, ht⟩ : ∃ t : ByteArray, t.data.toList = Lib.itoa q := ⟨⟨(Lib.itoa q).toArray⟩, rfl⟩
      have hts : t.size ≤ 21 := by rw [← ba_len, ht]; exact itoa_le HQ.out
      have HT := Lib.hid ht
      clear ht
      have hcv := cv_one b _ hb
      have hcd := cv_drew b _ hb
      have HBb := Lib.hid hb
      clear hb
      go_enter Tryd.func15, Tryd.ntmps15
      go_wp2_with fail
      go_region_with (go_at_call 15; refine (ih q t _ hqk HQ.out HT.out).mono ?_; rintro e w1 ⟨rfl, hb1⟩; first | (have hcv1 := cv_then b _ HBb.out hb1) | skip)
      all_goals
        go_wp2_with fail
        go_ret
        have eu : t ++ ⟨#[b]⟩ = u := ba_ext (by rw [ba_app, HT.out, HU.out, HF.out])
        rw [eu]
        first
          | exact ⟨rfl, (((Ow.refl _).drew.then hb1)).alloc _⟩
          | exact ⟨rfl, (((Ow.refl _).alloc _).drew).then hb1⟩
    · by_cases h9' : n < -9
      · obtain ⟨q, hq⟩ : ∃ q, Int.tdiv n 10 = q := ⟨_, rfl⟩
        obtain ⟨r, hr⟩ : ∃ r, Int.tmod n 10 = r := ⟨_, rfl⟩
        have q1 : q = -(-n / 10) := by
          have h1 : Int.tdiv (-n) 10 = -n / 10 := Int.tdiv_eq_ediv_of_nonneg (by omega)
          have h2 : Int.tdiv (-(-n)) 10 = -(Int.tdiv (-n) 10) := Int.neg_tdiv _ _
          rw [Int.neg_neg] at h2
          rw [← hq, h2, h1]
        have r1 : r = -(-n % 10) := by
          have h1 : Int.tmod (-n) 10 = -n % 10 := Int.tmod_eq_emod_of_nonneg (by omega)
          have h2 : Int.tmod (-(-n)) 10 = -(Int.tmod (-n) 10) := Int.neg_tmod _ _
          rw [Int.neg_neg] at h2
          rw [← hr, h2, h1]
        have hr9 : -9 ≤ r := by omega
        have hqk : q.natAbs < k := by omega
        have HQ : Hid (Ends q q) := ⟨by omega, by omega⟩
        have w1 : IntKind.i64.wrap q = q := IntWalk.i64_in _ (by omega)
        obtain ⟨t, ht⟩ : ∃ t : ByteArray, t.data.toList = Lib.itoa q := ⟨⟨(Lib.itoa q).toArray⟩, rfl⟩
        have hts : t.size ≤ 21 := by rw [← ba_len, ht]; exact itoa_le HQ.out
        have HT := Lib.hid ht
        clear ht
        by_cases hr0 : r < 0
        · have w2 : IntKind.i64.wrap (48 + -r) = 48 + -r := IntWalk.i64_in _ (by omega)
          have w3 : IntKind.u8.wrap (48 + -r) = 48 + -r := IntWalk.u8_in _ (by omega)
          obtain ⟨b, hb⟩ : ∃ b : UInt8, (b.toNat : Int) = 48 + -r := ⟨UInt8.ofNat (48 + (-r).toNat), by rw [Wd.dg_nat (by omega)]; omega⟩
          have HF : Hid (Lib.itoa n = Lib.itoa q ++ [b]) := it_big (.inr h9') hq (by rw [hb]; omega)
          clear q1 r1
          have hcv := cv_one b _ hb
          have hcd := cv_drew b _ hb
          have HBb := Lib.hid hb
          clear hb
          go_enter Tryd.func15, Tryd.ntmps15
          go_wp2_with fail
          go_region_with (go_at_call 15; refine (ih q t _ hqk HQ.out HT.out).mono ?_; rintro e w1 ⟨rfl, hb1⟩; first | (have hcv1 := cv_then b _ HBb.out hb1) | skip)
          all_goals
            go_wp2_with fail
            go_ret
            have eu : t ++ ⟨#[b]⟩ = u := ba_ext (by rw [ba_app, HT.out, HU.out, HF.out])
            rw [eu]
            first
              | exact ⟨rfl, (((Ow.refl _).drew.then hb1)).alloc _⟩
              | exact ⟨rfl, (((Ow.refl _).alloc _).drew).then hb1⟩
        · have e0 : r = 0 := by omega
          obtain ⟨b, hb⟩ : ∃ b : UInt8, (b.toNat : Int) = 48 := ⟨48, rfl⟩
          have HF : Hid (Lib.itoa n = Lib.itoa q ++ [b]) := it_big (.inr h9') hq (by rw [hb]; omega)
          have w2 : IntKind.i64.wrap 48 = 48 := IntWalk.i64_in _ (by omega)
          have w3 : IntKind.u8.wrap 48 = 48 := IntWalk.u8_in _ (by omega)
          clear q1 r1 hr0 hr9
          subst e0
          have hcv := cv_one b _ hb
          have hcd := cv_drew b _ hb
          have HBb := Lib.hid hb
          clear hb
          go_enter Tryd.func15, Tryd.ntmps15
          go_wp2_with fail
          go_region_with (go_at_call 15; refine (ih q t _ hqk HQ.out HT.out).mono ?_; rintro e w1 ⟨rfl, hb1⟩; first | (have hcv1 := cv_then b _ HBb.out hb1) | skip)
          all_goals
            go_wp2_with fail
            go_ret
            have eu : t ++ ⟨#[b]⟩ = u := ba_ext (by rw [ba_app, HT.out, HU.out, HF.out])
            rw [eu]
            first
              | exact ⟨rfl, (((Ow.refl _).drew.then hb1)).alloc _⟩
              | exact ⟨rfl, (((Ow.refl _).alloc _).drew).then hb1⟩
      · by_cases h0 : n < 0
        · have HQ : Hid (Ends (-n) (-n)) := ⟨by omega, by omega⟩
          have hqk : (-n).natAbs < k + 1 := by omega
          have HF : Hid (Lib.itoa n = 45 :: Lib.itoa (-n)) := Wd.itoa_neg h0
          obtain ⟨t, ht⟩ : ∃ t : ByteArray, t.data.toList = Lib.itoa (-n) := ⟨⟨(Lib.itoa (-n)).toArray⟩, rfl⟩
          have hts : t.size ≤ 21 := by rw [← ba_len, ht]; exact itoa_le HQ.out
          have HT := Lib.hid ht
          clear ht
          obtain ⟨b, hb⟩ : ∃ b : UInt8, (b.toNat : Int) = 48 + -n := ⟨UInt8.ofNat (48 + (-n).toNat), by rw [Wd.dg_nat (by omega)]; omega⟩
          have HO : Hid (t = ⟨#[b]⟩) := by
            refine ba_ext ?_
            rw [HT.out, Wd.itoa_one (by omega) (by omega)]
            have e : b = UInt8.ofNat (48 + (-n).toNat) := by
              apply UInt8.toNat_inj.1
              rw [Wd.dg_nat (by omega)]; omega
            rw [e]
          clear hb
          go_enter Tryd.func15, Tryd.ntmps15
          go_wp2_with (go_at_call 15; refine (rdig_one (-n) t _ (by omega) (by omega) HT.out).mono ?_; rintro e w1 ⟨rfl, hb1⟩)
          go_ret
          have eu : (⟨#[45]⟩ : ByteArray) ++ t = u := ba_ext (by rw [ba_app, HT.out, HU.out, HF.out]; rfl)
          rw [eu]
          exact ⟨rfl, hb1⟩
        · exact rdig_one n u w (by omega) (by omega) HU.out
end Go.Proofs.YtaojogaakhidhaaDoor

/- The law OpsScripts, walked. -/
import Derived.Test.YtaojogaakhidhaaGreatDoorOpLsA
import Derived.Test.YtaojogaakhidhaaGreatDoorQ10
import Derived.Test.YtaojogaakhidhaaGreatDoorOpShn
namespace Go.Proofs.YtaojogaakhidhaaGreatDoor
open Go.RowKit
open Sc (OC WfC chkE lsF listV textV lineT parC wantF)
theorem lsF_lenS : ∀ (L : List (List UInt8)) (i : Nat) (acc : List OC), (lsF L i acc).1.length ≤ acc.length + L.length
  | [], _, acc => by simp [lsF]
  | s :: r, i, acc => by
    rw [lsF]
    split
    · have := lsF_lenS r (i + 1) acc; simp only [List.length_cons]; omega
    · split
      · simp
      · split
        · simp
        · have := lsF_lenS r (i + 1) (acc ++ [parC s]); simp only [List.length_append, List.length_cons, List.length_nil] at this ⊢; omega
theorem listV_lenS (t : List UInt8) : (listV t).1.length ≤ 100000 := by
  unfold listV
  split
  · simp
  · have := lsF_lenS (Wd.linesS t) 0 []
    have h2 := linesN t
    simp only [List.length_nil] at this
    omega
theorem textV_len {l : List OC} (hw : ∀ c ∈ l, WfC c) (h : (textV l).2.2 = 0) : (textV l).1.length ≤ 59 * l.length := by
  rw [(Sc.list_text hw h).1]
  unfold textV at h
  split at h
  · cases h
  · have hc := Sc.tx_inv l 0 [] h
    have := Sc.ended_len (l.map lineT) (fun s hs => by obtain ⟨c, hc', rfl⟩ := List.mem_map.1 hs; exact Sc.line_len (hw c hc') (hc c hc'))
    rwa [List.length_map] at this
/-- The byte ahead of place k. -/
def prevB (l : List UInt8) (k : Nat) : UInt8 := if k = 0 then 10 else l.getD (k - 1) 0
theorem prev_next {l : List UInt8} {k : Nat} {c : UInt8} (h : l[k]? = some c) : prevB l (k + 1) = c := by
  unfold prevB
  rw [if_neg (by omega), Nat.add_sub_cancel, List.getD_eq_getElem?_getD, h]; rfl
theorem want_at {l : List UInt8} {k : Nat} {c : UInt8} (h : l[k]? = some c) : l.drop k = c :: l.drop (k + 1) := by
  obtain ⟨h, e⟩ := List.getElem?_eq_some_iff.1 h
  rw [List.drop_eq_getElem_cons h, e]
theorem want_in {l acc : List UInt8} {k : Nat} {c : UInt8} (h : l[k]? = some c) (hp : c ≠ 10 ∨ prevB l k ≠ 10) : acc ++ wantF (prevB l k) (l.drop k) = (acc ++ [c]) ++ wantF (prevB l (k + 1)) (l.drop (k + 1)) := by
  rw [want_at h, wantF, if_pos hp, prev_next h]; simp
theorem want_out {l acc : List UInt8} {k : Nat} {c : UInt8} (h : l[k]? = some c) (hc : c = 10) (hp : prevB l k = 10) : acc ++ wantF (prevB l k) (l.drop k) = acc ++ wantF (prevB l (k + 1)) (l.drop (k + 1)) := by
  rw [want_at h, wantF, if_neg (by rw [hp, hc]; simp), prev_next h]
theorem want_end {l acc : List UInt8} {k : Nat} (h : l.length ≤ k) : acc ++ wantF (prevB l k) (l.drop k) = acc := by
  rw [List.drop_eq_nil_iff.2 h, wantF, List.append_nil]
theorem prev_at {s : ByteArray} {k : Nat} (h0 : 0 < k) (h : k - 1 < s.size) : prevB s.data.toList k = s[k - 1] := by
  unfold prevB
  rw [if_neg (by omega), List.getD_eq_getElem?_getD, ba_at s (k - 1) h]; rfl
set_option maxRecDepth 100000 in
set_option maxHeartbeats 16000000 in
theorem scripts_walk (v : Value) (l : List OC) (s : ByteArray) (w : World) (hv : OcsA w v l) (_hl : l.length ≤ maxLen) (hw : ∀ c ∈ l, WfC c) (_hz : s.size ≤ maxLen) (hg : Gl w) (hd : Db w) :
    Calls Tryz.prog 5 #[v, .string s] w fun e w' => e = .returned (.bool true) ∧ Ow w w' := by
  have HG := Lib.hid hg
  have HD := Lib.hid hd
  have HW := Lib.hid hw
  clear hg hd hw
  have HSh := Lib.hid (fun W (h : Ow w W) => shown_any W (HG.out.below h) (HD.out.below h))
  obtain ⟨av, cv, rfl⟩ := hv.form
  have HV := Lib.hid hv
  clear hv
  have h3 : 60 < l.length ∨ (l.length ≤ 60 ∧ 3000 < s.size) ∨ (l.length ≤ 60 ∧ s.size ≤ 3000) := by omega
  rcases h3 with h | ⟨h, h2⟩ | ⟨h, h2⟩
  case inl =>
    have e1 : (60 : Int) < (l.length : Int) := by omega
    clear h
    go_enter Tryz.func5, Tryz.ntmps5
    go_wp2_with (go_at_call 6; refine (HSh.out _ (Ow.refl _)).mono ?_; rintro e wz ⟨rfl, hbz⟩)
    go_ret
    exact ⟨rfl, hbz⟩
  case inr.inl =>
    have e1 : ¬ (60 : Int) < (l.length : Int) := by omega
    have e2 : (3000 : Int) < (s.size : Int) := by omega
    clear h h2
    go_enter Tryz.func5, Tryz.ntmps5
    go_wp2_with (go_at_call 6; refine (HSh.out _ (Ow.refl _)).mono ?_; rintro e wz ⟨rfl, hbz⟩)
    go_ret
    exact ⟨rfl, hbz⟩
  case inr.inr =>
    have hs : s.size ≤ 9000 := by omega
    have hl : l.length ≤ 100000 := by omega
    have e1 : ¬ (60 : Int) < (l.length : Int) := by omega
    have e2' : ¬ (3000 : Int) < (s.size : Int) := by omega
    obtain ⟨⟨Lr, i, e2⟩, hR⟩ : ∃ R, listV s.data.toList = R := ⟨_, rfl⟩
    obtain ⟨⟨Tr, m, g⟩, hT⟩ : ∃ R, textV l = R := ⟨_, rfl⟩
    have HLl : Hid (Lr.length ≤ 100000) := by have := listV_lenS s.data.toList; rw [hR] at this; exact this
    have HA := fun W hG => list_any s W hs hG
    have HC := fun W h hG hD => text_any (.slice av l.length cv) l W h hl HW.out hG hD
    simp only [hR] at HA
    simp only [hT] at HC
    have KA := Lib.hid HA
    have KC := Lib.hid HC
    clear HA HC
    by_cases hg0 : g = 0
    · subst hg0
      have hlt := Sc.list_text HW.out (by rw [hT])
      have htl := textV_len HW.out (by rw [hT])
      rw [hT] at hlt htl
      simp only at hlt htl
      have KL : Hid (∀ t : ByteArray, t.data.toList = Tr → ∀ W, Gl W → Calls Tryz.prog 9 #[.string t] W (LiPost (l, 0, 0) W)) := fun t ht W hG => by
        have := list_any t W (by rw [← ba_len, ht]; omega) hG
        rwa [ht, hlt.2.2.1] at this
      unfold LiPost at KL
      clear hT hlt htl hs h h2
      by_cases he2 : e2 = 0
      · have KT : Hid (∀ W u, OcsA W u Lr → Gl W → Db W → Calls Tryz.prog 11 #[u] W (TxPost (wantF 10 s.data.toList, 0, 0) W)) := fun W u h hG hD => by
          have hx := Sc.text_list (t := s.data.toList) (by rw [hR]; exact he2)
          rw [hR] at hx
          simp only at hx
          have := text_any u Lr W h HLl.out hx.2 hG hD
          rwa [hx.1] at this
        unfold TxPost at KT
        clear hR
        subst he2
        go_enter Tryz.func5, Tryz.ntmps5
        go_wp2_with (first
          | (go_at_call 11; refine (KC.out _ HV.out HG.out HD.out).mono ?_; rintro ex w1 ⟨t, ht, rfl, hb1⟩; have HT := Lib.hid ht; have HO1 : Hid (Ow w w1) := hb1; clear ht hb1)
          | (go_at_call_of 9 (Value.string t); refine (KL.out t HT.out _ (HG.out.below HO1.out)).mono ?_; rintro ex w2 ⟨va, rfl, hoa, hb2⟩; have HOa := Lib.hid hoa; have HV2 := Lib.hid ((HV.out.then HO1.out).then hb2); have HO2 : Hid (Ow w w2) := HO1.out.then hb2; clear hoa hb2)
          | (go_at_call 13; refine (same_true _ va l _ HV2.out HOa.out hl).mono ?_; rintro ex w3 ⟨rfl, hb3⟩; have HO3 : Hid (Ow w w3) := HO2.out.then hb3; clear hb3)
          | (go_at_call_of 9 (Value.string s); refine (KA.out _ (HG.out.below HO3.out)).mono ?_; rintro ex w9 ⟨vm, rfl, hom, hb9⟩; have HOm := Lib.hid hom; have HO9 : Hid (Ow w w9) := HO3.out.then hb9; clear hom hb9))
        go_loopw [13, 14] (fun wv ix wr => ∃ (k : Nat) (q : ByteArray), k ≤ s.size ∧ wv = .string q ∧ ix = .int .i64 k ∧ q.size ≤ k ∧ Hid (q.data.toList ++ wantF (prevB s.data.toList k) (s.data.toList.drop k) = wantF 10 s.data.toList) ∧ w9 = wr) (fun _ ix _ => s.size - (intOf ix).toNat)
        case atStart => exact ⟨0, ⟨#[]⟩, by omega, rfl, rfl, Nat.zero_le _, rfl, rfl⟩
        case round =>
          obtain ⟨k, q, hk, rfl, rfl, hq, HQ, rfl⟩ := hrel
          by_cases hlt : k < s.size
          · obtain ⟨n, hn⟩ : ∃ n : Nat, s[k].toNat = n := ⟨_, rfl⟩
            have HX : Hid (s.data.toList[k]? = some s[k]) := ba_at s k hlt
            have HXe : Hid ((s.extract k (k + 1)).data.toList = [s[k]]) := by rw [Hid, ext_mid, Nat.add_sub_cancel_left, ba_drop s k hlt]; rfl
            have el : decide (k < s.size) = true := by simpa using hlt
            have hmin : min (k + 1) s.size - k = 1 := by omega
            have z1 : ¬ 9223372036854775807 < q.size + 1 := by omega
            by_cases h10 : n = 10
            · subst h10
              have HC : Hid (s[k] = 10) := UInt8.toNat_inj.1 hn
              by_cases hk0 : k = 0
              · subst hk0
                have HN := Lib.hid ((want_out HX.out HC.out rfl).symm.trans HQ.out)
                go_wp2
                go_roundw
                case rel => exact ⟨0 + 1, q, by omega, rfl, by go_num, by omega, HN, by first | rfl | trivial⟩
                case measure => simp [intOf]; omega
              · have hp : k - 1 < s.size := by omega
                have e0 : (0 : Int) < (k : Int) := by omega
                obtain ⟨m, hm⟩ : ∃ m : Nat, (s[k - 1]'hp).toNat = m := ⟨_, rfl⟩
                have HPr : Hid (prevB s.data.toList k = s[k - 1]'hp) := prev_at (by omega) hp
                by_cases hm10 : m = 10
                · subst hm10
                  have HN := Lib.hid ((want_out HX.out HC.out (by rw [HPr.out]; exact UInt8.toNat_inj.1 hm)).symm.trans HQ.out)
                  go_wp2
                  go_roundw
                  case rel => exact ⟨k + 1, q, by omega, rfl, by go_num, by omega, HN, by first | rfl | trivial⟩
                  case measure => simp [intOf]; omega
                · have em : ((m : Int) == 10) = false := by rw [beq_eq_false_iff_ne]; omega
                  have HN := Lib.hid ((want_in HX.out (.inr (by rw [HPr.out]; intro e; apply hm10; rw [← hm, e]; rfl))).symm.trans HQ.out)
                  clear hm10
                  go_wp2
                  go_roundw
                  case rel => exact ⟨k + 1, q ++ s.extract k (k + 1), by omega, rfl, by go_num, by rw [ByteArray.size_append, ByteArray.size_extract]; omega, by rw [Hid, ByteArray.data_append, Array.toList_append, HXe.out]; exact HN.out, by first | rfl | trivial⟩
                  case measure => simp [intOf]; omega
            · have e10 : ((n : Int) != 10) = true := by rw [bne_iff_ne]; omega
              have HN := Lib.hid ((want_in HX.out (.inl (by intro e; apply h10; rw [← hn, e]; rfl))).symm.trans HQ.out)
              clear h10
              go_wp2
              go_roundw
              case rel => exact ⟨k + 1, q ++ s.extract k (k + 1), by omega, rfl, by go_num, by rw [ByteArray.size_append, ByteArray.size_extract]; omega, by rw [Hid, ByteArray.data_append, Array.toList_append, HXe.out]; exact HN.out, by first | rfl | trivial⟩
              case measure => simp [intOf]; omega
          · have el : decide (k < s.size) = false := by simpa using hlt
            have HE : Hid (q.data.toList = wantF 10 s.data.toList) := by rw [Hid, ← HQ.out, want_end (by rw [ba_len]; omega)]
            clear hlt
            go_wp2_with (first
              | (go_at_call 11; refine (KT.out _ vm (HOm.out) (HG.out.below HO9.out) (HD.out.below HO9.out)).mono ?_; rintro ex wt ⟨t2, ht2, rfl, hbt⟩; obtain rfl : t2 = q := ba_ext (ht2.trans HE.out.symm); have HO10 : Hid (Ow w wt) := HO9.out.then hbt; clear ht2 hbt)
              | (go_at_call 6; refine (HSh.out _ HO10.out).mono ?_; rintro e wz ⟨rfl, hbz⟩))
            go_ret
            exact ⟨rfl, HO10.out.then hbz⟩
      · clear hR
        have hb0 : (e2 == 0) = false := beq_eq_false_iff_ne.2 he2
        clear he2
        go_enter Tryz.func5, Tryz.ntmps5
        go_wp2_with (first
          | (go_at_call 11; refine (KC.out _ HV.out HG.out HD.out).mono ?_; rintro ex w1 ⟨t, ht, rfl, hb1⟩; have HT := Lib.hid ht; have HO1 : Hid (Ow w w1) := hb1; clear ht hb1)
          | (go_at_call_of 9 (Value.string t); refine (KL.out t HT.out _ (HG.out.below HO1.out)).mono ?_; rintro ex w2 ⟨va, rfl, hoa, hb2⟩; have HOa := Lib.hid hoa; have HV2 := Lib.hid ((HV.out.then HO1.out).then hb2); have HO2 : Hid (Ow w w2) := HO1.out.then hb2; clear hoa hb2)
          | (go_at_call 13; refine (same_true _ va l _ HV2.out HOa.out hl).mono ?_; rintro ex w3 ⟨rfl, hb3⟩; have HO3 : Hid (Ow w w3) := HO2.out.then hb3; clear hb3)
          | (go_at_call_of 9 (Value.string s); refine (KA.out _ (HG.out.below HO3.out)).mono ?_; rintro ex w9 ⟨vm, rfl, hom, hb9⟩; have HOm := Lib.hid hom; have HO9 : Hid (Ow w w9) := HO3.out.then hb9; clear hom hb9)
          | (go_at_call 6; refine (HSh.out _ HO9.out).mono ?_; rintro e wz ⟨rfl, hbz⟩))
        go_ret
        exact ⟨rfl, HO9.out.then hbz⟩
    · have hg1 : (g == 0) = false := beq_eq_false_iff_ne.2 hg0
      clear hg0 hT hs h h2
      by_cases he2 : e2 = 0
      · have KT : Hid (∀ W u, OcsA W u Lr → Gl W → Db W → Calls Tryz.prog 11 #[u] W (TxPost (wantF 10 s.data.toList, 0, 0) W)) := fun W u h hG hD => by
          have hx := Sc.text_list (t := s.data.toList) (by rw [hR]; exact he2)
          rw [hR] at hx
          simp only at hx
          have := text_any u Lr W h HLl.out hx.2 hG hD
          rwa [hx.1] at this
        unfold TxPost at KT
        clear hR
        subst he2
        go_enter Tryz.func5, Tryz.ntmps5
        go_wp2_with (first
          | (go_at_call 11; refine (KC.out _ HV.out HG.out HD.out).mono ?_; rintro ex w1 ⟨t, ht, rfl, hb1⟩; have HT := Lib.hid ht; have HO1 : Hid (Ow w w1) := hb1; clear ht hb1)
          | (go_at_call 9; refine (KA.out _ (HG.out.below HO1.out)).mono ?_; rintro ex w9 ⟨vm, rfl, hom, hb9⟩; have HOm := Lib.hid hom; have HO9 : Hid (Ow w w9) := HO1.out.then hb9; clear hom hb9))
        go_loopw [13, 14] (fun wv ix wr => ∃ (k : Nat) (q : ByteArray), k ≤ s.size ∧ wv = .string q ∧ ix = .int .i64 k ∧ q.size ≤ k ∧ Hid (q.data.toList ++ wantF (prevB s.data.toList k) (s.data.toList.drop k) = wantF 10 s.data.toList) ∧ w9 = wr) (fun _ ix _ => s.size - (intOf ix).toNat)
        case atStart => exact ⟨0, ⟨#[]⟩, by omega, rfl, rfl, Nat.zero_le _, rfl, rfl⟩
        case round =>
          obtain ⟨k, q, hk, rfl, rfl, hq, HQ, rfl⟩ := hrel
          by_cases hlt : k < s.size
          · obtain ⟨n, hn⟩ : ∃ n : Nat, s[k].toNat = n := ⟨_, rfl⟩
            have HX : Hid (s.data.toList[k]? = some s[k]) := ba_at s k hlt
            have HXe : Hid ((s.extract k (k + 1)).data.toList = [s[k]]) := by rw [Hid, ext_mid, Nat.add_sub_cancel_left, ba_drop s k hlt]; rfl
            have el : decide (k < s.size) = true := by simpa using hlt
            have hmin : min (k + 1) s.size - k = 1 := by omega
            have z1 : ¬ 9223372036854775807 < q.size + 1 := by omega
            by_cases h10 : n = 10
            · subst h10
              have HC : Hid (s[k] = 10) := UInt8.toNat_inj.1 hn
              by_cases hk0 : k = 0
              · subst hk0
                have HN := Lib.hid ((want_out HX.out HC.out rfl).symm.trans HQ.out)
                go_wp2
                go_roundw
                case rel => exact ⟨0 + 1, q, by omega, rfl, by go_num, by omega, HN, by first | rfl | trivial⟩
                case measure => simp [intOf]; omega
              · have hp : k - 1 < s.size := by omega
                have e0 : (0 : Int) < (k : Int) := by omega
                obtain ⟨m, hm⟩ : ∃ m : Nat, (s[k - 1]'hp).toNat = m := ⟨_, rfl⟩
                have HPr : Hid (prevB s.data.toList k = s[k - 1]'hp) := prev_at (by omega) hp
                by_cases hm10 : m = 10
                · subst hm10
                  have HN := Lib.hid ((want_out HX.out HC.out (by rw [HPr.out]; exact UInt8.toNat_inj.1 hm)).symm.trans HQ.out)
                  go_wp2
                  go_roundw
                  case rel => exact ⟨k + 1, q, by omega, rfl, by go_num, by omega, HN, by first | rfl | trivial⟩
                  case measure => simp [intOf]; omega
                · have em : ((m : Int) == 10) = false := by rw [beq_eq_false_iff_ne]; omega
                  have HN := Lib.hid ((want_in HX.out (.inr (by rw [HPr.out]; intro e; apply hm10; rw [← hm, e]; rfl))).symm.trans HQ.out)
                  clear hm10
                  go_wp2
                  go_roundw
                  case rel => exact ⟨k + 1, q ++ s.extract k (k + 1), by omega, rfl, by go_num, by rw [ByteArray.size_append, ByteArray.size_extract]; omega, by rw [Hid, ByteArray.data_append, Array.toList_append, HXe.out]; exact HN.out, by first | rfl | trivial⟩
                  case measure => simp [intOf]; omega
            · have e10 : ((n : Int) != 10) = true := by rw [bne_iff_ne]; omega
              have HN := Lib.hid ((want_in HX.out (.inl (by intro e; apply h10; rw [← hn, e]; rfl))).symm.trans HQ.out)
              clear h10
              go_wp2
              go_roundw
              case rel => exact ⟨k + 1, q ++ s.extract k (k + 1), by omega, rfl, by go_num, by rw [ByteArray.size_append, ByteArray.size_extract]; omega, by rw [Hid, ByteArray.data_append, Array.toList_append, HXe.out]; exact HN.out, by first | rfl | trivial⟩
              case measure => simp [intOf]; omega
          · have el : decide (k < s.size) = false := by simpa using hlt
            have HE : Hid (q.data.toList = wantF 10 s.data.toList) := by rw [Hid, ← HQ.out, want_end (by rw [ba_len]; omega)]
            clear hlt
            go_wp2_with (first
              | (go_at_call 11; refine (KT.out _ vm (HOm.out) (HG.out.below HO9.out) (HD.out.below HO9.out)).mono ?_; rintro ex wt ⟨t2, ht2, rfl, hbt⟩; obtain rfl : t2 = q := ba_ext (ht2.trans HE.out.symm); have HO10 : Hid (Ow w wt) := HO9.out.then hbt; clear ht2 hbt)
              | (go_at_call 6; refine (HSh.out _ HO10.out).mono ?_; rintro e wz ⟨rfl, hbz⟩))
            go_ret
            exact ⟨rfl, HO10.out.then hbz⟩
      · clear hR
        have hb0 : (e2 == 0) = false := beq_eq_false_iff_ne.2 he2
        clear he2
        go_enter Tryz.func5, Tryz.ntmps5
        go_wp2_with (first
          | (go_at_call 11; refine (KC.out _ HV.out HG.out HD.out).mono ?_; rintro ex w1 ⟨t, ht, rfl, hb1⟩; have HT := Lib.hid ht; have HO1 : Hid (Ow w w1) := hb1; clear ht hb1)
          | (go_at_call 9; refine (KA.out _ (HG.out.below HO1.out)).mono ?_; rintro ex w9 ⟨vm, rfl, hom, hb9⟩; have HOm := Lib.hid hom; have HO9 : Hid (Ow w w9) := HO1.out.then hb9; clear hom hb9)
          | (go_at_call 6; refine (HSh.out _ HO9.out).mono ?_; rintro e wz ⟨rfl, hbz⟩))
        go_ret
        exact ⟨rfl, HO9.out.then hbz⟩
end Go.Proofs.YtaojogaakhidhaaGreatDoor

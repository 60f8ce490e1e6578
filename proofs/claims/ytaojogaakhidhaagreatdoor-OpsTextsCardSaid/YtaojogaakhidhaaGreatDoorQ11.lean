/- The reference of chapter 28: List. The law OpsTexts, walked. -/
import Derived.Test.YtaojogaakhidhaaGreatDoorOpLsA
import Derived.Test.YtaojogaakhidhaaGreatDoorQ10
import Derived.Test.YtaojogaakhidhaaGreatDoorOpShn
namespace Go.Proofs.YtaojogaakhidhaaGreatDoor
open Go.RowKit
open Sc (OC parE parC lsF listV)
open Wd (linesE linesS partsL)
set_option maxRecDepth 100000 in
set_option maxHeartbeats 8000000 in
theorem rlist_any (s : ByteArray) (w : World) (hs : s.size ≤ 9000) :
    Calls Tryz.prog 10 #[.string s] w (LiPost (listV s.data.toList) w) := by
  obtain ⟨m, hm⟩ : ∃ m, linesE s.data.toList = m := ⟨_, rfl⟩
  obtain ⟨L, hL⟩ : ∃ L, linesS s.data.toList = L := ⟨_, rfl⟩
  obtain ⟨R, hR⟩ : ∃ R, listV s.data.toList = R := ⟨_, rfl⟩
  rw [hR]
  have HLi := Lib.hid (fun W => rlinA_is s m hm L hL W (by omega))
  have HSh : Hid (∀ x ∈ L, x.length ≤ 9000) := fun x hx => by rw [← hL] at hx; have := linesLen _ x hx; rw [ba_len] at this; omega
  have hnl : L.length ≤ 5000 := by rw [← hL]; exact linesN _
  by_cases hm0 : m = 0
  · subst hm0
    have HV : Hid (lsF (L.drop 0) 0 [] = R) := by rw [Hid, List.drop_zero, ← hL, ← listV_ok hm, hR]
    clear hm hL hR hs
    obtain ⟨i0, hi0, hz0, hz1, hz2⟩ := info_parts Tryz.infoOC
    go_enter Tryz.func10, Tryz.ntmps10
    go_wp2_with fail
    (go_at_call 23; refine (HLi.out _).mono ?_; rintro e w1 ⟨va, rfl, hva, hb1⟩)
    have SA := Lib.hid hva
    have O1 : Hid (Ow w w1) := hb1
    clear hva hb1 HLi
    rcases SA.out with ⟨h0, ga, gc, rfl⟩ | ⟨hne, g, off, cap, rfl, hgl, hc⟩
    · have HF : Hid (([], 0, 0) = R) := by rw [Hid, ← HV.out, h0]; rfl
      clear h0 hnl
      go_wp2
      go_loopw [7, 8] (fun v ix wr => v = .slice none 0 0 ∧ ix = .int .i64 0 ∧ w1 = wr) (fun v ix _ => 0)
      case atStart => exact ⟨rfl, rfl, rfl⟩
      case round =>
        obtain ⟨rfl, rfl, rfl⟩ := hrel
        go_wp2
        go_ret3
        rw [← HF.out]
        exact ⟨_, rfl, nil_ocs _, O1.out⟩
    · have HC := Lib.hid hc
      clear hc hne
      go_wp2
      go_loopw [7, 8] (fun v ix wr => ∃ (k : Nat) (acc : List OC), k ≤ L.length ∧ ix = .int .i64 k ∧ acc.length ≤ k ∧ wr.ownsRow w1.heap.size 25 7 v acc.length (cellsO acc) ∧ Hid (Ow w1 wr) ∧ Hid (lsF (L.drop k) k acc = R)) (fun v ix _ => L.length - (intOf ix).toNat)
      case atStart => exact ⟨0, [], by omega, rfl, by simp, World.ownsRow_nil _ _ _ _, Ow.refl _, HV⟩
      case round =>
        obtain ⟨k, acc, hk, rfl, hak, hown, HB, HR⟩ := hrel
        clear HV
        have HO := Lib.hid hown
        have hszr : w1.heap.size ≤ wr.heap.size := HB.out.size
        clear hown
        by_cases hlt : k < L.length
        · obtain ⟨x, hx⟩ : ∃ x, L[k]? = some x := ⟨L[k], List.getElem?_eq_getElem hlt⟩
          have hxl := HSh.out x (List.mem_of_getElem? hx)
          obtain ⟨t, ht⟩ : ∃ t : ByteArray, t.data.toList = x := ⟨⟨x.toArray⟩, rfl⟩
          have c0 : wr.cell? ⟨g, off + k, none⟩ = some (.string t) := by
            rw [(HB.out.cell (p := ⟨g, off + k, none⟩) hgl).trans (HC.out k _ hx), ← ht, ba_mk]
          have hts : t.size ≤ 9000 := by rw [← ba_len, ht]; exact hxl
          have el : decide (k < L.length) = true := by simpa using hlt
          have hlt2 : (k : Int) < (L.length : Int) := by omega
          have HX := Lib.hid hx
          have HT := Lib.hid ht
          clear hx ht hxl
          by_cases hx0 : t.size = 0
          · have e0 := ba_empty hx0
            have HN := Lib.hid ((lsF_skip HX.out (by rw [← HT.out]; exact ba_nil hx0)).symm.trans HR.out)
            clear hx0
            go_wp2
            go_roundw
            case rel => exact ⟨k + 1, acc, by omega, by go_num, by omega, HO.out, HB, HN⟩
            case measure => simp [intOf]; omega
          · have e0 := ba_full (s := t) (by omega)
            have HXn : Hid (x ≠ []) := fun e => hx0 (by rw [← ba_len, HT.out, e]; rfl)
            obtain ⟨d, hd⟩ : ∃ d, parC x = d := ⟨_, rfl⟩
            obtain ⟨p, hp⟩ : ∃ p, parE x = p := ⟨_, rfl⟩
            have HP := Lib.hid (fun W => rparse_any t W hts)
            unfold PaPost at HP
            rw [HT.out, hd, hp] at HP
            unfold ocells at HP
            have HD := Lib.hid hd
            have HPp := Lib.hid hp
            clear hd hp hx0
            by_cases hp0 : p = 0
            · subst hp0
              obtain ⟨av, cv, rfl⟩ := own_slice HO.out
              by_cases h200 : acc.length = 200
              · have HF := Lib.hid ((lsF_long HX.out HXn.out HPp.out h200).symm.trans HR.out)
                have e2 : ((acc.length : Int) == 200) = true := by rw [beq_iff_eq]; omega
                go_wp2_with (go_at_call 8; refine (HP.out _).mono ?_; rintro e w2 ⟨rfl, hb2⟩; have HO2 := Lib.hid (O1.out.then (HB.out.then hb2)); clear hb2)
                go_ret3
                rw [← HF.out]
                exact ⟨_, rfl, nil_ocs _, HO2.out.alloc _⟩
              · have HN := Lib.hid ((lsF_step HX.out HXn.out HPp.out h200 HD.out).symm.trans HR.out)
                have e2 : ((acc.length : Int) == 200) = false := by rw [beq_eq_false_iff_ne]; omega
                clear h200
                go_wp2_with (first
                  | (go_at_call 8; refine (HP.out _).mono ?_; rintro e w2 ⟨rfl, hb2⟩; have HO2 := Lib.hid (own_then HO.out hb2); have HB2 : Hid (Ow w1 w2) := HB.out.then hb2; have hsz2 : w1.heap.size ≤ w2.heap.size := HB2.out.size; clear hb2)
                  | (at_builtin; refine wpList_append_own _ rfl _ _ 30 rfl w1.heap.size 25 i0 (.agg #[.int .i64 0, .int .i64 0, .int .i64 0, .int .i64 0, .int .i64 0, .int .i64 0, .int .u64 0]) 7 56 Tryz.underlying30 hi0 hz0 hz1 hz2 rfl (by decide) _ acc.length (cellsO acc) rfl ((HO2.out.alloc _).alloc _) ⟨w2.heap.size + 1, 0, none⟩ 1 1 [.int .i64 d.k, .int .i64 d.a, .int .i64 d.b, .int .i64 d.f, .int .i64 d.p, .int .i64 d.r, .int .u64 d.v] rfl rfl (cells_new (w2.alloc (.cells #[.int .i64 d.k, .int .i64 d.a, .int .i64 d.b, .int .i64 d.f, .int .i64 d.p, .int .i64 d.r, .int .u64 d.v] 25)) #[.int .i64 d.k, .int .i64 d.a, .int .i64 d.b, .int .i64 d.f, .int .i64 d.p, .int .i64 d.r, .int .u64 d.v] 25 (w2.heap.size + 1) (by simp) _ rfl) (by simp [Value.oneCell']) (by unfold maxLen; omega) (by omega) (by simp; omega) ?_; intro v4 w4 hown4 hgrow4 hnil4))
                go_roundw
                case rel => exact ⟨k + 1, acc ++ [d], by omega, by go_num, by simp; omega, by rw [cellsO_snoc]; simpa using hown4, own_after ((HO2.out.alloc _).alloc _) hgrow4 ((HB2.out.alloc _).alloc _) (Nat.le_refl _), HN⟩
                case measure => simp [intOf]; omega
            · have hb0 : (p == 0) = false := beq_eq_false_iff_ne.2 hp0
              have HF := Lib.hid ((lsF_err HX.out HXn.out HPp.out hp0).symm.trans HR.out)
              clear hp0
              go_wp2_with (go_at_call 8; refine (HP.out _).mono ?_; rintro e w2 ⟨rfl, hb2⟩; have HO2 := Lib.hid (O1.out.then (HB.out.then hb2)); clear hb2)
              go_ret3
              rw [← HF.out]
              exact ⟨_, rfl, nil_ocs _, HO2.out.alloc _⟩
        · have el : decide (k < L.length) = false := by simpa using hlt
          have HF := Lib.hid ((lsF_end (by omega)).symm.trans HR.out)
          clear hlt
          go_wp2
          go_ret3
          rw [← HF.out]
          exact ⟨_, rfl, ocs_own HO.out, O1.out.then HB.out⟩
  · have HF : Hid (([], 0, m) = R) := by rw [Hid, ← hR, listV_bad hm hm0]
    have hb0 : (m == 0) = false := beq_eq_false_iff_ne.2 hm0
    clear hm hL hR hm0 hs
    go_enter Tryz.func10, Tryz.ntmps10
    go_wp2_with (go_at_call 23; refine (HLi.out _).mono ?_; rintro e w1 ⟨va, rfl, hva, hb1⟩; clear hva)
    go_ret3
    rw [← HF.out]
    exact ⟨_, rfl, nil_ocs _, hb1⟩
end Go.Proofs.YtaojogaakhidhaaGreatDoor
namespace Go.Proofs.YtaojogaakhidhaaGreatDoor
open Go.RowKit
open Sc (OC WfC lsF listV textV parC)
theorem lsF_len : ∀ (L : List (List UInt8)) (i : Nat) (acc : List OC), (lsF L i acc).1.length ≤ acc.length + L.length
  | [], _, acc => by simp [lsF]
  | s :: r, i, acc => by
    rw [lsF]
    split
    · have := lsF_len r (i + 1) acc; simp only [List.length_cons]; omega
    · split
      · simp
      · split
        · simp
        · have := lsF_len r (i + 1) (acc ++ [parC s]); simp only [List.length_append, List.length_cons, List.length_nil] at this ⊢; omega
theorem listV_len (t : List UInt8) : (listV t).1.length ≤ 100000 := by
  unfold listV
  split
  · simp
  · have := lsF_len (Wd.linesS t) 0 []
    have h2 := linesN t
    simp only [List.length_nil] at this
    omega
set_option maxRecDepth 100000 in
set_option maxHeartbeats 16000000 in
theorem texts_walk (s : ByteArray) (v : Value) (l : List OC) (w : World) (_hz : s.size ≤ maxLen) (hv : OcsA w v l) (_hl : l.length ≤ maxLen) (hw : ∀ c ∈ l, WfC c) (hg : Gl w) (hd : Db w) :
    Calls Tryz.prog 4 #[.string s, v] w fun e w' => e = .returned (.bool true) ∧ Ow w w' := by
  have HG := Lib.hid hg
  have HD := Lib.hid hd
  have HW := Lib.hid hw
  clear hg hd hw
  have HSh := Lib.hid (fun W (h : Ow w W) => shown_any W (HG.out.below h) (HD.out.below h))
  obtain ⟨av, cv, rfl⟩ := hv.form
  have HV := Lib.hid hv
  clear hv
  have h5 : 3000 < s.size ∨ (s.size ≤ 3000 ∧ 60 < l.length ∧ l.length ≤ 200) ∨ (s.size ≤ 3000 ∧ 205 < l.length) ∨ (s.size ≤ 3000 ∧ l.length ≤ 60) ∨ (s.size ≤ 3000 ∧ 200 < l.length ∧ l.length ≤ 205) := by omega
  rcases h5 with h | ⟨h, h2, h3⟩ | ⟨h, h2⟩ | ⟨h, h2⟩ | ⟨h, h2, h3⟩
  case inl =>
    have e1 : (3000 : Int) < (s.size : Int) := by omega
    clear h
    go_enter Tryz.func4, Tryz.ntmps4
    go_wp2_with (go_at_call 6; refine (HSh.out _ (Ow.refl _)).mono ?_; rintro e wz ⟨rfl, hbz⟩)
    go_ret
    exact ⟨rfl, hbz⟩
  case inr.inl =>
    have e1 : ¬ (3000 : Int) < (s.size : Int) := by omega
    have e2 : (60 : Int) < (l.length : Int) := by omega
    have e3 : (l.length : Int) ≤ 200 := by omega
    clear h h2 h3
    go_enter Tryz.func4, Tryz.ntmps4
    go_wp2_with (go_at_call 6; refine (HSh.out _ (Ow.refl _)).mono ?_; rintro e wz ⟨rfl, hbz⟩)
    go_ret
    exact ⟨rfl, hbz⟩
  case inr.inr.inl =>
    have e1 : ¬ (3000 : Int) < (s.size : Int) := by omega
    have e2 : (60 : Int) < (l.length : Int) := by omega
    have e3 : ¬ (l.length : Int) ≤ 200 := by omega
    have e4 : (205 : Int) < (l.length : Int) := by omega
    clear h h2
    go_enter Tryz.func4, Tryz.ntmps4
    go_wp2_with (go_at_call 6; refine (HSh.out _ (Ow.refl _)).mono ?_; rintro e wz ⟨rfl, hbz⟩)
    go_ret
    exact ⟨rfl, hbz⟩
  case inr.inr.inr.inl =>
    have hs : s.size ≤ 9000 := by omega
    have hl : l.length ≤ 100000 := by omega
    obtain ⟨⟨Lr, i, e⟩, hR⟩ : ∃ R, listV s.data.toList = R := ⟨_, rfl⟩
    obtain ⟨⟨Tr, m, g⟩, hT⟩ : ∃ R, textV l = R := ⟨_, rfl⟩
    have HLl : Hid (Lr.length ≤ 100000) := by have := listV_len s.data.toList; rw [hR] at this; exact this
    have HA := fun W hG => list_any s W hs hG
    have HB := fun W => rlist_any s W hs
    have HC := fun W h hG hD => text_any (.slice av l.length cv) l W h hl HW.out hG hD
    have HE := fun W h => rtext_any (.slice av l.length cv) l W h hl HW.out
    simp only [hR] at HA HB
    simp only [hT] at HC HE
    have KA := Lib.hid HA
    have KB := Lib.hid HB
    have KC := Lib.hid HC
    have KE := Lib.hid HE
    clear HA HB HC HE hR hT hs hl
    have e1 : ¬ (3000 : Int) < (s.size : Int) := by omega
    have e2 : ¬ (60 : Int) < (l.length : Int) := by omega
    have e4 : ¬ (205 : Int) < (l.length : Int) := by omega
    clear h h2
    go_enter Tryz.func4, Tryz.ntmps4
    go_wp2_with (first
      | (go_at_call 9; refine (KA.out _ HG.out).mono ?_; rintro e1 w1 ⟨va, rfl, hoa, hb1⟩; have HOa := Lib.hid hoa; have HO1 : Hid (Ow w w1) := hb1; clear hoa hb1)
      | (go_at_call 10; refine (KB.out _).mono ?_; rintro e1 w2 ⟨vb, rfl, hob, hb2⟩; have HOa2 := Lib.hid (HOa.out.then hb2); have HOb := Lib.hid hob; have HO2 : Hid (Ow w w2) := HO1.out.then hb2; clear hob hb2)
      | (go_at_call 11; refine (KC.out _ (HV.out.then HO2.out) (HG.out.below HO2.out) (HD.out.below HO2.out)).mono ?_; rintro e1 w3 ⟨t, ht, rfl, hb3⟩; have HT := Lib.hid ht; have HOa3 := Lib.hid (HOa2.out.then hb3); have HOb3 := Lib.hid (HOb.out.then hb3); have HO3 : Hid (Ow w w3) := HO2.out.then hb3; clear ht hb3)
      | (go_at_call 12; refine (KE.out _ (HV.out.then HO3.out)).mono ?_; rintro e1 w4 ⟨t', ht', rfl, hb4⟩; obtain rfl : t' = t := ba_ext (ht'.trans HT.out.symm); have HOa4 := Lib.hid (HOa3.out.then hb4); have HOb4 := Lib.hid (HOb3.out.then hb4); have HO4 : Hid (Ow w w4) := HO3.out.then hb4; clear ht' hb4)
      | (go_at_call 13; refine (same_true va vb Lr _ HOa4.out HOb4.out HLl.out).mono ?_; rintro e1 w5 ⟨rfl, hb5⟩; have HO5 : Hid (Ow w w5) := HO4.out.then hb5; clear hb5)
      | (go_at_call 6; refine (HSh.out _ HO5.out).mono ?_; rintro e wz ⟨rfl, hbz⟩))
    go_ret
    exact ⟨rfl, HO5.out.then hbz⟩
  case inr.inr.inr.inr =>
    have hs : s.size ≤ 9000 := by omega
    have hl : l.length ≤ 100000 := by omega
    obtain ⟨⟨Lr, i, e⟩, hR⟩ : ∃ R, listV s.data.toList = R := ⟨_, rfl⟩
    obtain ⟨⟨Tr, m, g⟩, hT⟩ : ∃ R, textV l = R := ⟨_, rfl⟩
    have HLl : Hid (Lr.length ≤ 100000) := by have := listV_len s.data.toList; rw [hR] at this; exact this
    have HA := fun W hG => list_any s W hs hG
    have HB := fun W => rlist_any s W hs
    have HC := fun W h hG hD => text_any (.slice av l.length cv) l W h hl HW.out hG hD
    have HE := fun W h => rtext_any (.slice av l.length cv) l W h hl HW.out
    simp only [hR] at HA HB
    simp only [hT] at HC HE
    have KA := Lib.hid HA
    have KB := Lib.hid HB
    have KC := Lib.hid HC
    have KE := Lib.hid HE
    clear HA HB HC HE hR hT hs hl
    have e1 : ¬ (3000 : Int) < (s.size : Int) := by omega
    have e2 : (60 : Int) < (l.length : Int) := by omega
    have e3 : ¬ (l.length : Int) ≤ 200 := by omega
    have e4 : ¬ (205 : Int) < (l.length : Int) := by omega
    clear h h2 h3
    go_enter Tryz.func4, Tryz.ntmps4
    go_wp2_with (first
      | (go_at_call 9; refine (KA.out _ HG.out).mono ?_; rintro e1 w1 ⟨va, rfl, hoa, hb1⟩; have HOa := Lib.hid hoa; have HO1 : Hid (Ow w w1) := hb1; clear hoa hb1)
      | (go_at_call 10; refine (KB.out _).mono ?_; rintro e1 w2 ⟨vb, rfl, hob, hb2⟩; have HOa2 := Lib.hid (HOa.out.then hb2); have HOb := Lib.hid hob; have HO2 : Hid (Ow w w2) := HO1.out.then hb2; clear hob hb2)
      | (go_at_call 11; refine (KC.out _ (HV.out.then HO2.out) (HG.out.below HO2.out) (HD.out.below HO2.out)).mono ?_; rintro e1 w3 ⟨t, ht, rfl, hb3⟩; have HT := Lib.hid ht; have HOa3 := Lib.hid (HOa2.out.then hb3); have HOb3 := Lib.hid (HOb.out.then hb3); have HO3 : Hid (Ow w w3) := HO2.out.then hb3; clear ht hb3)
      | (go_at_call 12; refine (KE.out _ (HV.out.then HO3.out)).mono ?_; rintro e1 w4 ⟨t', ht', rfl, hb4⟩; obtain rfl : t' = t := ba_ext (ht'.trans HT.out.symm); have HOa4 := Lib.hid (HOa3.out.then hb4); have HOb4 := Lib.hid (HOb3.out.then hb4); have HO4 : Hid (Ow w w4) := HO3.out.then hb4; clear ht' hb4)
      | (go_at_call 13; refine (same_true va vb Lr _ HOa4.out HOb4.out HLl.out).mono ?_; rintro e1 w5 ⟨rfl, hb5⟩; have HO5 : Hid (Ow w w5) := HO4.out.then hb5; clear hb5)
      | (go_at_call 6; refine (HSh.out _ HO5.out).mono ?_; rintro e wz ⟨rfl, hbz⟩))
    go_ret
    exact ⟨rfl, HO5.out.then hbz⟩
end Go.Proofs.YtaojogaakhidhaaGreatDoor

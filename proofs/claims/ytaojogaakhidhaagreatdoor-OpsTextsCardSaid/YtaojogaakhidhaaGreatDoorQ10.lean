/- The reference of chapter 28: Print. The reference of chapter 28: Text, Same. -/
import Derived.Test.YtaojogaakhidhaaGreatDoorOpRChk
import Derived.Test.YtaojogaakhidhaaGreatDoorQ9
import Derived.Deep.QuietTactic
import Derived.BigQuiet
namespace Go.Proofs.YtaojogaakhidhaaGreatDoor
open Go.RowKit
open Sc (OC chkE kf kw num inR WfC printS lineT prT fieldS hexL)

theorem rhex_at (v : Nat) (hv : v < 18446744073709551616) (u : ByteArray) (hu : u.data.toList = hexL v) (w : World) : Calls Tryz.prog 48 #[.int .u64 v] w fun e w' => e = .returned (.string u) ∧ Ow w w' := rhex_any (v + 1) v u w (by omega) hv hu
theorem rdig_at (n : Int) (u : ByteArray) (h : u.data.toList = Lib.itoa n) (w : World) (he : Ends n n) : Calls Tryz.prog 49 #[.int .i64 n] w fun e w' => e = .returned (.string u) ∧ Ow w w' := rdigits_any (n.natAbs + 1) n u w (by omega) he h
set_option maxRecDepth 100000 in
set_option maxHeartbeats 8000000 in
theorem rprint_any (c : OC) (u : ByteArray) (m : Int) (hu : u.data.toList = printS c) (hm : chkE c = m) (hw : WfC c) (w : World) :
    Calls Tryz.prog 27 #[.agg (ocells c)] w fun e w' => e = .returned (.tuple #[.string u, .int .i64 m]) ∧ Ow w w' := by
  have HS := Lib.hid (RK.start w c)
  have HC := Lib.hid (fun W => rchk_any c m hm W)
  by_cases h0 : m = 0
  · subst h0
    rw [prs_ok hm] at hu
    have hk := (Sc.chk_parts hm).1
    have HW := Lib.hid hw
    have H0 := Lib.hid hm
    have HLT : Hid (lineT c = prT c (kf c.k).length) := (Sc.prT_all (Nat.le_refl _)).symm
    have HU := Lib.hid hu
    obtain ⟨W1, hW1⟩ : ∃ u : ByteArray, u = ⟨(wrd c.k).toArray⟩ := ⟨_, rfl⟩
    obtain ⟨L, hL⟩ : ∃ u : ByteArray, u = ⟨(ltrs c.k).toArray⟩ := ⟨_, rfl⟩
    have HR := Lib.hid (fun W => rword_any c.k W)
    rw [← hW1, ← hL] at HR
    have hLl : L.data.toList = (kf c.k).map ltr := by rw [hL]; show ltrs c.k = _; unfold ltrs; rw [if_pos hk]
    have hLs : L.size = (kf c.k).length := by rw [← ba_len, hLl, List.length_map]
    have HW1 : Hid (W1.data.toList = kw c.k) := by rw [hW1]; show wrd c.k = _; unfold wrd; rw [if_pos hk]
    have HLl := Lib.hid hLl
    have HLs := Lib.hid hLs
    have hk3 := Sc.kf_three c.k
    have hL3 : L.size ≤ 3 := by omega
    have HK := Lib.hid hk
    clear hu hm hw hW1 hL hLl hLs hk hk3
    obtain ⟨k, a, b, f, p, r, v⟩ := c
    obtain ⟨vn, rfl⟩ : ∃ q : Nat, v = q := ⟨v.toNat, by have := HW.out.1; simp only at this; omega⟩
    have hv64 : vn < 18446744073709551616 := by have := HW.out.2; simp only at this; omega
    unfold ocells at HS HC ⊢
    go_enter Tryz.func27, Tryz.ntmps27
    go_wp2_with fail
    (go_at_call 47; refine (HC.out _).mono ?_; rintro e w1 ⟨rfl, hb1⟩)
    have H1 := Lib.hid (HS.out.then hb1)
    have r0 : w1.cell? ⟨w.heap.size, 0, none⟩ = some (.int .i64 k) := H1.out.box.at rfl
    clear hb1
    go_wp2_with (go_at_call 20; refine (HR.out _).mono ?_; rintro e W ⟨rfl, rfl⟩)
    go_loopw [5, 7] (fun tx ix wr => ∃ (i : Nat) (t : ByteArray), i ≤ L.size ∧ tx = .string t ∧ ix = .int .i64 i ∧ t.size ≤ 60 ∧ Hid (t.data.toList = prT ⟨k, a, b, f, p, r, vn⟩ i) ∧ Hid (RK w ⟨k, a, b, f, p, r, vn⟩ wr)) (fun _ ix _ => L.size - (intOf ix).toNat)
    case atStart => exact ⟨0, W1, Nat.zero_le _, rfl, rfl, by rw [← ba_len, HW1.out]; have := Sc.kw_len k; omega, by rw [Hid, HW1.out, Sc.prT_zero], H1⟩
    case round =>
      obtain ⟨i, t, hi, rfl, rfl, ht60, HTx, HB⟩ := hrel
      by_cases hlt : i < L.size
      · obtain ⟨j, hj⟩ : ∃ j, (kf k)[i]? = some j := ⟨_, List.getElem?_eq_getElem (by have := HLs.out; omega)⟩
        have el : decide (i < L.size) = true := by simpa using hlt
        obtain ⟨q, hq, q1, q12⟩ := Sc.k_nat HK.out
        have hin := Sc.kf_in q q12 j (by rw [hq]; exact List.mem_of_getElem? hj)
        have hr6 := (Sc.chk_parts H0.out).2.2 j (List.mem_of_getElem? hj)
        have HNx : Hid (prT ⟨k, a, b, f, p, r, vn⟩ (i + 1) = prT ⟨k, a, b, f, p, r, vn⟩ i ++ 32 :: fieldS ⟨k, a, b, f, p, r, vn⟩ j) := Sc.prT_next hj
        have HLn := Lib.hid (Sc.prT_len HW.out H0.out (i + 1))
        have hfl := Sc.fieldS_short HW.out hr6
        have hlj : L[i] = ltr j := by
          have h1 : L.data.toList[i]? = some (ltr j) := by rw [HLl.out, List.getElem?_map, hj]; rfl
          rw [ba_at L i hlt] at h1
          exact Option.some.inj h1
        obtain ⟨n, hn⟩ : ∃ n : Nat, L[i].toNat = n := ⟨_, rfl⟩
        have hnl : (ltr j).toNat = n := by rw [← hn, hlj]
        clear hj hq q1 q12 hlj
        by_cases h6 : j = 6
        · subst h6
          obtain rfl : n = 118 := by rw [← hnl]; rfl
          obtain ⟨u, hu⟩ : ∃ u : ByteArray, u.data.toList = hexL vn := ⟨⟨(hexL vn).toArray⟩, rfl⟩
          have hfs : fieldS ⟨k, a, b, f, p, r, vn⟩ 6 = hexL vn := by simp [fieldS]
          rw [hfs] at hfl
          have hus : u.size ≤ 16 := by rw [← ba_len, hu]; exact hfl
          have HUx := Lib.hid hu
          have HT2 : Hid ((t ++ ⟨#[32]⟩ ++ u).data.toList = prT ⟨k, a, b, f, p, r, vn⟩ (i + 1)) := by
            rw [Hid, HNx.out, hfs, ← HTx.out, ← hu]; simp
          have cv : wr.cell? ⟨w.heap.size, 6, none⟩ = some (.int .u64 (vn : Int)) := HB.out.box.at rfl
          clear hu hfs hfl hr6 hnl
          go_wp2_with (go_at_call 48; refine (rhex_at vn hv64 u HUx.out _).mono ?_; rintro e w3 ⟨rfl, hb3⟩)
          go_roundw
          case rel => exact ⟨i + 1, _, by omega, rfl, by go_num, by rw [← ba_len, HT2.out]; exact HLn.out, HT2, HB.out.then hb3⟩
          case measure => simp [intOf]; omega
        · obtain ⟨m, hm⟩ : ∃ m, num ⟨k, a, b, f, p, r, vn⟩ j = m := ⟨_, rfl⟩
          have hr := hr6.resolve_left h6
          have h5 : j ≤ 5 := by omega
          have hfs : fieldS ⟨k, a, b, f, p, r, vn⟩ j = Lib.itoa m := by unfold fieldS; rw [if_neg h6, hm]
          rw [hfs] at hfl
          rw [hm] at hr
          obtain ⟨u, hu⟩ : ∃ u : ByteArray, u.data.toList = Lib.itoa m := ⟨⟨(Lib.itoa m).toArray⟩, rfl⟩
          have hus : u.size ≤ 16 := by rw [← ba_len, hu]; exact hfl
          have HT2 : Hid ((t ++ ⟨#[32]⟩ ++ u).data.toList = prT ⟨k, a, b, f, p, r, vn⟩ (i + 1)) := by
            rw [Hid, HNx.out, hfs, ← HTx.out, ← hu]; simp
          have HEn : Hid (Ends m m) := by simp only [inR, decide_eq_true_eq] at hr; exact ⟨by omega, by omega⟩
          have HG2 := Lib.hid (fun W => by have := rget_any ⟨k, a, b, f, p, r, vn⟩ j ⟨hin.1, h5⟩ W; rw [hnl, hm] at this; exact this)
          have HUx := Lib.hid hu
          have n118 : ((n : Int) == 118) = false := by
            rw [beq_eq_false_iff_ne]
            intro e
            have e2 : n = 118 := by omega
            rw [e2] at hnl
            exact h6 (ltr_inj j (by omega) 6 (by omega) hin.1 (by omega) (UInt8.toNat_inj.1 hnl))
          unfold ocells at HG2
          have r0 : wr.cell? ⟨w.heap.size, 0, none⟩ = some (.int .i64 k) := HB.out.box.at rfl
          have r1 : wr.cell? ⟨w.heap.size, 1, none⟩ = some (.int .i64 a) := HB.out.box.at rfl
          have r2 : wr.cell? ⟨w.heap.size, 2, none⟩ = some (.int .i64 b) := HB.out.box.at rfl
          have r3 : wr.cell? ⟨w.heap.size, 3, none⟩ = some (.int .i64 f) := HB.out.box.at rfl
          have r4 : wr.cell? ⟨w.heap.size, 4, none⟩ = some (.int .i64 p) := HB.out.box.at rfl
          have r5 : wr.cell? ⟨w.heap.size, 5, none⟩ = some (.int .i64 r) := HB.out.box.at rfl
          have r6 : wr.cell? ⟨w.heap.size, 6, none⟩ = some (.int .u64 (vn : Int)) := HB.out.box.at rfl
          clear hfs hfl hr6 hr hm hu hin hnl
          go_wp2_with fail
          go_region_with (first
            | (go_at_call 50; refine (HG2.out _).mono ?_; rintro e w3 ⟨rfl, hb3⟩)
            | (go_at_call 49; refine (rdig_at m u HUx.out _ HEn.out).mono ?_; rintro e w4 ⟨rfl, hb4⟩))
          all_goals
            simp only [Act.put, List.getElem_toArray, List.getElem_cons_succ, List.getElem_cons_zero, List.setIfInBounds_toArray, List.set_cons_succ, List.set_cons_zero]
            go_wp2_with fail
            go_roundw
            case rel => exact ⟨i + 1, _, by omega, rfl, by go_num, by rw [← ba_len, HT2.out]; exact HLn.out, HT2, HB.out.then (Ow.then (Ow.then (Ow.refl _).drew hb3) hb4)⟩
            case measure => simp [intOf]; omega
      · have el : decide (i < L.size) = false := by simpa using hlt
        have HF : Hid (t = u) := by
          have : i = L.size := by omega
          refine ba_ext ?_
          rw [HTx.out, HU.out, HLT.out, this, HLs.out]
        clear hlt
        go_wp2_with fail
        go_ret2
        rw [HF.out]
        exact ⟨rfl, HB.out.ow⟩
  · have hu0 : u = ⟨#[]⟩ := str_of (by rw [hu]; unfold printS; rw [hm, if_neg h0])
    subst hu0
    have hb : (m == 0) = false := beq_eq_false_iff_ne.2 h0
    clear hu hm h0 hw
    obtain ⟨k, a, b, f, p, r, v⟩ := c
    unfold ocells at HS HC ⊢
    go_enter Tryz.func27, Tryz.ntmps27
    go_wp2_with (go_at_call 47; refine (HC.out _).mono ?_; rintro e w1 ⟨rfl, hb1⟩)
    go_ret2
    exact ⟨rfl, Ow.then HS.out.ow hb1⟩
end Go.Proofs.YtaojogaakhidhaaGreatDoor
namespace Go.Proofs.YtaojogaakhidhaaGreatDoor
open Go.RowKit
open Sc (OC chkE WfC printS lineT txF textV)
set_option maxRecDepth 100000 in
set_option maxHeartbeats 8000000 in
theorem rtext_any (v : Value) (l : List OC) (w : World) (hv : OcsA w v l) (hl : l.length ≤ 100000) (hw : ∀ c ∈ l, WfC c) :
    Calls Tryz.prog 12 #[v] w (TxPost (textV l) w) := by
  obtain ⟨R, hR⟩ : ∃ R, textV l = R := ⟨_, rfl⟩
  rw [hR]
  have HW := Lib.hid hw
  clear hw
  by_cases h200 : 200 < l.length
  · have HF : Hid (([], -1, 3) = R) := by rw [Hid, ← hR]; unfold textV; rw [if_pos h200]
    have e1 : (200 : Int) < (l.length : Int) := by omega
    obtain ⟨a, cap, rfl⟩ := hv.form
    clear h200 hR hv
    go_enter Tryz.func12, Tryz.ntmps12
    go_wp2
    go_ret3
    rw [← HF.out]
    exact ⟨⟨#[]⟩, rfl, rfl, Ow.refl _⟩
  · have e1 : ¬ (200 : Int) < (l.length : Int) := by omega
    have HV : Hid (txF (l.drop 0) 0 [] = R) := by rw [Hid, List.drop_zero, ← hR]; unfold textV; rw [if_neg h200]
    clear h200 hR
    rcases hv with ⟨h0, a, cap, rfl⟩ | ⟨hne, g, off, cap, rfl, hgl, hc⟩
    · have HF : Hid (([], 0, 0) = R) := by rw [Hid, ← HV.out, h0]; rfl
      subst h0
      go_enter Tryz.func12, Tryz.ntmps12
      go_wp2
      go_loopw [5, 6] (fun tv ix wr => tv = .string ⟨#[]⟩ ∧ ix = .int .i64 0 ∧ w = wr) (fun _ _ _ => 0)
      case atStart => exact ⟨rfl, rfl, rfl⟩
      case round =>
        obtain ⟨rfl, rfl, rfl⟩ := hrel
        go_wp2
        go_ret3
        rw [← HF.out]
        exact ⟨⟨#[]⟩, rfl, rfl, Ow.refl _⟩
    · have HC := Lib.hid hc
      clear hc hne
      go_enter Tryz.func12, Tryz.ntmps12
      go_wp2
      go_loopw [5, 6] (fun tv ix wr => ∃ (k : Nat) (t : ByteArray), k ≤ l.length ∧ tv = .string t ∧ ix = .int .i64 k ∧ t.size ≤ 59 * k ∧ Hid (Ow w wr) ∧ Hid (txF (l.drop k) k t.data.toList = R)) (fun _ ix _ => l.length - (intOf ix).toNat)
      case atStart => exact ⟨0, ⟨#[]⟩, by omega, rfl, rfl, Nat.zero_le _, Ow.refl _, HV⟩
      case round =>
        obtain ⟨k, t, hk, rfl, rfl, hbl, HO, HR⟩ := hrel
        clear HV
        by_cases hlt : k < l.length
        · obtain ⟨c, hx⟩ : ∃ c, l[k]? = some c := ⟨l[k], List.getElem?_eq_getElem hlt⟩
          obtain ⟨c0, c1, c2, c3, c4, c5, c6⟩ := (HC.out k c hx).then HO.out
          have hgr : g < wr.heap.size := Nat.lt_of_lt_of_le hgl HO.out.size
          have HWc : Hid (WfC c) := HW.out c (List.mem_of_getElem? hx)
          obtain ⟨u, hu⟩ : ∃ u : ByteArray, u.data.toList = printS c := ⟨⟨(printS c).toArray⟩, rfl⟩
          obtain ⟨m, hm⟩ : ∃ m, chkE c = m := ⟨_, rfl⟩
          have HP := Lib.hid (fun W => rprint_any c u m hu hm HWc.out W)
          have hul : u.size ≤ 58 := by rw [← ba_len]; exact print_len HWc.out hu
          have HX := Lib.hid hx
          have HU := Lib.hid hu
          have HM := Lib.hid hm
          have el : decide (k < l.length) = true := by simpa using hlt
          have hlt2 : (k : Int) < (l.length : Int) := by omega
          clear hx hu hm
          obtain ⟨ck, ca, cb, cf, cp, cr, cv⟩ := c
          simp only at c0 c1 c2 c3 c4 c5 c6
          unfold ocells at HP
          by_cases hm0 : m = 0
          · subst hm0
            have HN := Lib.hid ((txF_step HX.out HM.out HU.out).symm.trans HR.out)
            have z1 : ¬ 9223372036854775807 < t.size + u.size := by omega
            have z2 : ¬ 9223372036854775807 < t.size + u.size + 1 := by omega
            go_wp2_with (go_at_call 27; refine (HP.out _).mono ?_; rintro e w2 ⟨rfl, hb2⟩; have HO2 : Hid (Ow w w2) := (by first | exact HO.out.then hb2 | exact (HO.out.alloc _).then hb2); clear hb2)
            go_roundw
            case rel => exact ⟨k + 1, t ++ u ++ ⟨#[10]⟩, by omega, rfl, by go_num, by rw [ByteArray.size_append, ByteArray.size_append, show (⟨#[10]⟩ : ByteArray).size = 1 from rfl]; omega, HO2, by simpa [Hid] using HN.out⟩
            case measure => simp [intOf]; omega
          · have hb0 : (m == 0) = false := beq_eq_false_iff_ne.2 hm0
            have HF := Lib.hid ((txF_err HX.out HM.out hm0).symm.trans HR.out)
            clear hm0
            go_wp2_with (go_at_call 27; refine (HP.out _).mono ?_; rintro e w2 ⟨rfl, hb2⟩; have HO2 : Hid (Ow w w2) := (by first | exact HO.out.then hb2 | exact (HO.out.alloc _).then hb2); clear hb2)
            go_ret3
            rw [← HF.out]
            exact ⟨⟨#[]⟩, rfl, rfl, HO2.out⟩
        · have el : decide (k < l.length) = false := by simpa using hlt
          have HF := Lib.hid ((txF_end (by omega)).symm.trans HR.out)
          clear hlt
          go_wp2
          go_ret3
          rw [← HF.out]
          exact ⟨t, rfl, rfl, HO.out⟩
/-- Same, of equal lists. -/
theorem OcAt.all {w : World} {g o : Nat} {c : OC} (h : OcAt w g o c) : OcAt w g o c := h
set_option maxRecDepth 100000 in
set_option maxHeartbeats 8000000 in
theorem same_true (va vb : Value) (l : List OC) (w : World) (ha : OcsA w va l) (hb : OcsA w vb l) (hl : l.length ≤ 100000) :
    Calls Tryz.prog 13 #[va, vb] w fun e w' => e = .returned (.bool true) ∧ Ow w w' := by
  rcases ha with ⟨h0, a, cap, rfl⟩ | ⟨hne, g, off, cap, rfl, hgl, hc⟩
  · rcases hb with ⟨_, a', cap', rfl⟩ | ⟨hne', _⟩
    · clear h0 hl
      go_enter Tryz.func13, Tryz.ntmps13
      go_wp2
      go_loopw [5] (fun i wr => i = .int .i64 0 ∧ w = wr) (fun _ _ => 0)
      case atStart => exact ⟨rfl, rfl⟩
      case round =>
        obtain ⟨rfl, rfl⟩ := hrel
        go_wp2
        go_ret
        exact ⟨rfl, Ow.refl _⟩
    · exact absurd h0 hne'
  · rcases hb with ⟨h0, _⟩ | ⟨_, g', off', cap', rfl, hgl', hc'⟩
    · exact absurd h0 hne
    · have HC := Lib.hid hc
      have HC' := Lib.hid hc'
      clear hc hc' hne
      go_enter Tryz.func13, Tryz.ntmps13
      go_wp2
      go_loopw [5] (fun i wr => ∃ k : Nat, k ≤ l.length ∧ i = .int .i64 k ∧ Hid (Ow w wr)) (fun i _ => l.length - (intOf i).toNat)
      case atStart => exact ⟨0, by omega, rfl, Ow.refl _⟩
      case round =>
        obtain ⟨k, hk, rfl, HB⟩ := hrel
        by_cases hlt : k < l.length
        · obtain ⟨c, hx⟩ : ∃ c, l[k]? = some c := ⟨l[k], List.getElem?_eq_getElem hlt⟩
          obtain ⟨c0, c1, c2, c3, c4, c5, c6⟩ := (HC.out k c hx).then HB.out
          obtain ⟨d0, d1, d2, d3, d4, d5, d6⟩ := (HC'.out k c hx).then HB.out
          have el : decide (k < l.length) = true := by simpa using hlt
          have hlt2 : (k : Int) < (l.length : Int) := by omega
          clear hx
          obtain ⟨ck, ca, cb, cf, cp, cr, cv⟩ := c
          simp only at c0 c1 c2 c3 c4 c5 c6 d0 d1 d2 d3 d4 d5 d6
          go_wp2
          go_quiet (fail)
          go_wp2
          go_roundw
          case rel => exact ⟨k + 1, by omega, by go_num, HB.out.drewN _⟩
          case measure => simp [intOf]; omega
        · have el : decide (k < l.length) = false := by simpa using hlt
          go_wp2
          go_ret
          exact ⟨rfl, HB.out⟩
end Go.Proofs.YtaojogaakhidhaaGreatDoor

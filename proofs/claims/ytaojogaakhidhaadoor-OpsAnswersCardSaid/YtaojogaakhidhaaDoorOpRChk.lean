/- The reference of chapter 28: Check. -/
import Derived.Test.YtaojogaakhidhaaDoorOpRfA
import Derived.Test.YtaojogaakhidhaaDoorQ3
import Derived.Test.YtaojogaakhidhaaDoorWRDig
import Derived.Deep.DeepCutAuto
import Derived.Deep.QuietTactic
import Derived.BigQuiet
namespace Go.Proofs.YtaojogaakhidhaaDoor
open Go.RowKit
open Sc (OC chkE kf kw num inR bareOk)

theorem ltr_inj : ∀ i : Nat, i < 7 → ∀ j : Nat, j < 7 → 1 ≤ i → 1 ≤ j → ltr i = ltr j → i = j := by decide +kernel
theorem ltrs_has {k : Int} (hk : 1 ≤ k ∧ k ≤ 11) (i : Nat) (h1 : 1 ≤ i) (h6 : i ≤ 6) : (ltrs k).contains (ltr i) = (kf k).contains i := by
  obtain ⟨j, hj, j1, j12⟩ := Sc.k_nat hk
  unfold ltrs
  rw [if_pos hk, Bool.eq_iff_iff, List.contains_iff_mem, List.contains_iff_mem, List.mem_map]
  constructor
  · rintro ⟨a, ha, e⟩
    have := Sc.kf_in j j12 a (by rw [hj]; exact ha)
    rw [← ltr_inj a (by omega) i (by omega) this.1 h1 e]; exact ha
  · intro h; exact ⟨i, h, rfl⟩
theorem ltrs_len {k : Int} (hk : 1 ≤ k ∧ k ≤ 11) : (ltrs k).length = (kf k).length := by unfold ltrs; rw [if_pos hk, List.length_map]
/-- What stands between the rounds. -/
structure RK (w : World) (c : OC) (W : World) : Prop where
  ow : Ow w W
  box : Bx w.heap.size (ocells c) 24 W
theorem RK.start (w : World) (c : OC) : RK w c (w.alloc (.cells (ocells c) 24)) := ⟨(Ow.refl _).alloc _, Bx.new _ _ _⟩
theorem RK.then {w : World} {c : OC} {W W' : World} (h : RK w c W) (hb : Ow W W') : RK w c W' := ⟨Ow.then h.ow hb, h.box.then hb⟩
def allS : ByteArray := ⟨#[97, 98, 102, 112, 114]⟩
theorem all_at (i : Nat) (h : i < 5) (hs : i < allS.size) : allS[i] = ltr (i + 1) := by
  obtain rfl | rfl | rfl | rfl | rfl : i = 0 ∨ i = 1 ∨ i = 2 ∨ i = 3 ∨ i = 4 := by omega
  all_goals rfl
set_option maxRecDepth 100000 in
set_option maxHeartbeats 8000000 in
theorem rchk_any (c : OC) (m : Int) (hm : chkE c = m) (w : World) :
    Calls Tryd.prog 22 #[.agg (ocells c)] w fun e w' => e = .returned (.int .i64 m) ∧ Ow w w' := by
  subst hm
  have HS := Lib.hid (RK.start w c)
  obtain ⟨W1, hW1⟩ : ∃ u : ByteArray, u = ⟨(wrd c.k).toArray⟩ := ⟨_, rfl⟩
  obtain ⟨L, hL⟩ : ∃ u : ByteArray, u = ⟨(ltrs c.k).toArray⟩ := ⟨_, rfl⟩
  have HR := Lib.hid (fun W => rword_any c.k W)
  rw [← hW1, ← hL] at HR
  have hLs : L.size ≤ 9000 := by
    rw [hL]; show (ltrs c.k).toArray.size ≤ 9000
    unfold ltrs; split
    · simp; have := Sc.kf_three c.k; omega
    · simp
  by_cases hk : 1 ≤ c.k ∧ c.k ≤ 11
  · have HK := Lib.hid hk
    have hLL : L.data.toList = ltrs c.k := by rw [hL]
    have e0 := ba_full (s := W1) (by rw [hW1]; show 0 < (wrd c.k).toArray.size; unfold wrd; rw [if_pos hk]; have := (Sc.kw_bare c.k.toNat (by omega)).1; rw [Int.toNat_of_nonneg (by omega)] at this; cases h : kw c.k with | nil => rw [h] at this; simp [Wd.bareB] at this | cons _ _ => simp)
    obtain ⟨b6, hb6⟩ : ∃ b, (kf c.k).contains 6 = b := ⟨_, rfl⟩
    have HV := Lib.hid (fun W => rhas_any L 118 118 rfl b6 (by rw [hLL, ← hb6]; exact ltrs_has hk 6 (by omega) (by omega)) W hLs)
    have HH := Lib.hid (fun (i n : Nat) (hi : i < 5) (hn : (ltr (i + 1)).toNat = n) b hb W => rhas_any L (ltr (i + 1)) n hn b ((hLL ▸ ltrs_has hk (i + 1) (by omega) (by omega)).trans hb) W hLs)
    have HGt := Lib.hid (fun (i n : Nat) (hi : i < 5) (hn : (ltr (i + 1)).toNat = n) (x : Int) (hx : num c (i + 1) = x) W => by have := rget_any c (i + 1) ⟨by omega, by omega⟩ W; rw [hn, hx] at this; exact this)
    have HB6 := Lib.hid hb6
    clear hLL hW1 hL hb6 hk
    obtain ⟨k, a, b, f, p, r, v⟩ := c
    unfold ocells at HS HGt ⊢
    by_cases hv : b6 = false ∧ v ≠ 0
    · obtain ⟨rfl, hv⟩ := hv
      have HE := Lib.hid (Sc.chk_bare (c := ⟨k, a, b, f, p, r, v⟩) 6 (by omega) (by omega) HB6.out hv)
      have hv0 := beq_eq_false_iff_ne.2 hv
      clear hv
      go_enter Tryd.func22, Tryd.ntmps22
      go_wp2_with (first
        | (go_at_call 37; refine (HR.out _).mono ?_; rintro e W ⟨rfl, rfl⟩)
        | (go_at_call 38; refine (HV.out _).mono ?_; rintro e W ⟨rfl, rfl⟩))
      go_ret
      rw [HE.out]
      exact ⟨rfl, HS.out.ow⟩
    · have HN6 : Hid ((kf k).contains 6 = true ∨ v = 0) := by
        cases b6 with
        | true => exact .inl HB6.out
        | false => exact .inr (Classical.not_not.1 (fun h => hv ⟨rfl, h⟩))
      go_enter Tryd.func22, Tryd.ntmps22
      go_upto_region 2 with (go_at_call 37; refine (HR.out _).mono ?_; rintro e W ⟨rfl, rfl⟩)
      go_cut [26] (fun x wx => x = .bool false ∧ Hid (RK w ⟨k, a, b, f, p, r, v⟩ wx))
      case first =>
        cases b6 with
        | true =>
          clear hv HN6
          go_wp2_with (go_at_call 38; refine (HV.out _).mono ?_; rintro e W ⟨rfl, rfl⟩)
          go_meet
          case rel => exact ⟨rfl, HS⟩
        | false =>
          have hv0 : v = 0 := Classical.not_not.1 (fun h => hv ⟨rfl, h⟩)
          subst hv0
          clear hv HN6
          go_wp2_with (go_at_call 38; refine (HV.out _).mono ?_; rintro e W ⟨rfl, rfl⟩)
          go_meet
          case rel => exact ⟨rfl, HS⟩
      case rest =>
        obtain ⟨rfl, hcut⟩ := hcut
        have HCa := Lib.hid hcut.out
        clear hv HV hcut
        go_upto_region 4 with fail
        go_cut [5] (fun x wx => ∃ al : ByteArray, x = .string al ∧ al.size = 5 ∧ Hid (al = allS) ∧ Hid (RK w ⟨k, a, b, f, p, r, v⟩ wx))
        case first =>
          go_wp2_with fail
          go_meet
          case rel => exact ⟨allS, rfl, rfl, rfl, HCa⟩
        case rest =>
          clear HS HCa
          obtain ⟨al, rfl, hal, HA, HC0⟩ := hcut
          go_wp2_with fail
          go_loopw [6] (fun ix wr => ∃ i : Nat, i ≤ 5 ∧ ix = .int .i64 i ∧ Hid (∀ j, 1 ≤ j → j ≤ i → (kf k).contains j = true ∨ num ⟨k, a, b, f, p, r, v⟩ j = 0) ∧ Hid (RK w ⟨k, a, b, f, p, r, v⟩ wr)) (fun ix _ => 5 - (intOf ix).toNat)
          case atStart => exact ⟨0, by omega, rfl, fun j h1 h2 => by omega, HC0⟩
          case round =>
            obtain ⟨i, hi, rfl, HI, HC⟩ := hrel
            clear HC0
            by_cases hlt : i < 5
            · have hsi : i < al.size := by omega
              obtain ⟨n, hn⟩ : ∃ n : Nat, al[i].toNat = n := ⟨_, rfl⟩
              have hnl : (ltr (i + 1)).toNat = n := by
                have := HA.out
                subst this
                rw [← hn, all_at i hlt]
              obtain ⟨x, hx⟩ : ∃ x, num ⟨k, a, b, f, p, r, v⟩ (i + 1) = x := ⟨_, rfl⟩
              obtain ⟨bi, hbi⟩ : ∃ bi, (kf k).contains (i + 1) = bi := ⟨_, rfl⟩
              have HH2 := Lib.hid (HH.out i n hlt hnl bi hbi)
              have HG2 := Lib.hid (HGt.out i n hlt hnl x hx)
              have HX := Lib.hid (And.intro hx hbi)
              have HIn : Hid ((bi = true ∨ x = 0) → ∀ j, 1 ≤ j → j ≤ i + 1 → (kf k).contains j = true ∨ num ⟨k, a, b, f, p, r, v⟩ j = 0) := fun h j h1 h2 => by
                rcases Nat.lt_or_ge i j with h3 | h3
                · obtain rfl : j = i + 1 := by omega
                  rw [HX.out.1, HX.out.2]; exact h
                · exact HI.out j h1 h3
              clear hnl hx hbi
              have r0 : wr.cell? ⟨w.heap.size, 0, none⟩ = some (.int .i64 k) := HC.out.box.at rfl
              have r1 : wr.cell? ⟨w.heap.size, 1, none⟩ = some (.int .i64 a) := HC.out.box.at rfl
              have r2 : wr.cell? ⟨w.heap.size, 2, none⟩ = some (.int .i64 b) := HC.out.box.at rfl
              have r3 : wr.cell? ⟨w.heap.size, 3, none⟩ = some (.int .i64 f) := HC.out.box.at rfl
              have r4 : wr.cell? ⟨w.heap.size, 4, none⟩ = some (.int .i64 p) := HC.out.box.at rfl
              have r5 : wr.cell? ⟨w.heap.size, 5, none⟩ = some (.int .i64 r) := HC.out.box.at rfl
              have r6 : wr.cell? ⟨w.heap.size, 6, none⟩ = some (.int .u64 v) := HC.out.box.at rfl
              have l1 := HC.out.box.lt
              cases bi with
              | true =>
                go_wp2_with fail
                go_quiet ((go_at_call 38; exact Calls.quiet_of_same ((HH2.out _).mono fun _ _ ⟨h1, h2⟩ => ⟨h1, h2.symm⟩)))
                all_goals
                  try simp only [Act.put, List.getElem_toArray, List.getElem_cons_succ, List.getElem_cons_zero, List.setIfInBounds_toArray, List.set_cons_succ, List.set_cons_zero]
                  go_wp2_with fail
                  go_roundw
                  case rel => exact ⟨i + 1, by omega, by go_num, HIn.out (.inl (by first | trivial | rfl)), HC.out.then (by first | exact Ow.refl _ | exact (Ow.refl _).drew | exact (Ow.refl _).drewN _)⟩
                  case measure => simp [intOf]; omega
              | false =>
                by_cases hx0 : x = 0
                · subst hx0
                  go_wp2_with fail
                  go_region_with (first
                    | (go_at_call 38; refine (HH2.out _).mono ?_; rintro e W ⟨rfl, rfl⟩)
                    | (go_at_call 39; refine (HG2.out _).mono ?_; rintro e w3 ⟨rfl, hb3⟩; have O3 := Lib.hid (HC.out.then (Ow.then (Ow.refl _).drew hb3)); clear hb3))
                  all_goals
                    simp only [Act.put, List.getElem_toArray, List.getElem_cons_succ, List.getElem_cons_zero, List.setIfInBounds_toArray, List.set_cons_succ, List.set_cons_zero]
                    go_wp2_with fail
                    go_roundw
                    case rel => exact ⟨i + 1, by omega, by go_num, HIn.out (.inr (by first | trivial | rfl)), O3⟩
                    case measure => simp [intOf]; omega
                · have HE := Lib.hid (Sc.chk_bare (c := ⟨k, a, b, f, p, r, v⟩) (i + 1) (by omega) (by omega) HX.out.2 (by rw [HX.out.1]; exact hx0))
                  have hn0 := beq_eq_false_iff_ne.2 hx0
                  clear hx0
                  go_wp2_with fail
                  go_region_with (first
                    | (go_at_call 38; refine (HH2.out _).mono ?_; rintro e W ⟨rfl, rfl⟩)
                    | (go_at_call 39; refine (HG2.out _).mono ?_; rintro e w3 ⟨rfl, hb3⟩; have O3 := Lib.hid (HC.out.then (Ow.then (Ow.refl _).drew hb3)); clear hb3))
                  all_goals
                    simp only [Act.put, List.getElem_toArray, List.getElem_cons_succ, List.getElem_cons_zero, List.setIfInBounds_toArray, List.set_cons_succ, List.set_cons_zero]
                    go_wp2_with fail
                    go_ret
                    rw [HE.out]
                    exact ⟨rfl, O3.out.ow⟩
            · have hi5 : i = 5 := by omega
              have HBo : Hid (bareOk ⟨k, a, b, f, p, r, v⟩ = true) := Sc.bare_mk fun j h1 h6 => by
                rcases Nat.lt_or_ge 5 j with h | h
                · obtain rfl : j = 6 := by omega
                  exact HN6.out
                · exact HI.out j h1 (by omega)
              clear hi HI hi5
              go_wp2_with fail
              go_loopw [7] (fun ix wr => ∃ i : Nat, i ≤ 5 ∧ ix = .int .i64 i ∧ Hid (∀ j, 1 ≤ j → j ≤ i → inR (num ⟨k, a, b, f, p, r, v⟩ j) = true) ∧ Hid (RK w ⟨k, a, b, f, p, r, v⟩ wr)) (fun ix _ => 5 - (intOf ix).toNat)
              case atStart => exact ⟨0, by omega, rfl, fun j h1 h2 => by omega, HC⟩
              case round =>
                clear HC
                obtain ⟨i, hi, rfl, HI, HC⟩ := hrel
                by_cases hlt : i < 5
                · have hsi : i < al.size := by omega
                  obtain ⟨n, hn⟩ : ∃ n : Nat, al[i].toNat = n := ⟨_, rfl⟩
                  have hnl : (ltr (i + 1)).toNat = n := by
                    have := HA.out
                    subst this
                    rw [← hn, all_at i hlt]
                  obtain ⟨x, hx⟩ : ∃ x, num ⟨k, a, b, f, p, r, v⟩ (i + 1) = x := ⟨_, rfl⟩
                  have HG2 := Lib.hid (HGt.out i n hlt hnl x hx)
                  have HX := Lib.hid hx
                  clear hnl hx
                  have r0 : wr.cell? ⟨w.heap.size, 0, none⟩ = some (.int .i64 k) := HC.out.box.at rfl
                  have r1 : wr.cell? ⟨w.heap.size, 1, none⟩ = some (.int .i64 a) := HC.out.box.at rfl
                  have r2 : wr.cell? ⟨w.heap.size, 2, none⟩ = some (.int .i64 b) := HC.out.box.at rfl
                  have r3 : wr.cell? ⟨w.heap.size, 3, none⟩ = some (.int .i64 f) := HC.out.box.at rfl
                  have r4 : wr.cell? ⟨w.heap.size, 4, none⟩ = some (.int .i64 p) := HC.out.box.at rfl
                  have r5 : wr.cell? ⟨w.heap.size, 5, none⟩ = some (.int .i64 r) := HC.out.box.at rfl
                  have r6 : wr.cell? ⟨w.heap.size, 6, none⟩ = some (.int .u64 v) := HC.out.box.at rfl
                  have l1 := HC.out.box.lt
                  by_cases hlo : x < -1000000000
                  · have HE := Lib.hid (Sc.chk_range (c := ⟨k, a, b, f, p, r, v⟩) HK.out HBo.out (i + 1) (by omega) (by omega) (by rw [HX.out]; simp [inR]; omega))
                    go_wp2_with fail
                    go_region_with (go_at_call 39; refine (HG2.out _).mono ?_; rintro e w3 ⟨rfl, hb3⟩; have O3 := Lib.hid (HC.out.then (Ow.then (Ow.refl _).drew hb3)); clear hb3)
                    all_goals
                      simp only [Act.put, List.getElem_toArray, List.getElem_cons_succ, List.getElem_cons_zero, List.setIfInBounds_toArray, List.set_cons_succ, List.set_cons_zero]
                      go_wp2_with fail
                      go_ret
                      rw [HE.out]
                      exact ⟨rfl, O3.out.ow⟩
                  · by_cases hhi : 1000000000 < x
                    · have HE := Lib.hid (Sc.chk_range (c := ⟨k, a, b, f, p, r, v⟩) HK.out HBo.out (i + 1) (by omega) (by omega) (by rw [HX.out]; simp [inR]; omega))
                      go_wp2_with fail
                      go_region_with (go_at_call 39; refine (HG2.out _).mono ?_; rintro e w3 ⟨rfl, hb3⟩; have O3 := Lib.hid (HC.out.then (Ow.then (Ow.refl _).drew hb3)); clear hb3)
                      all_goals
                        simp only [Act.put, List.getElem_toArray, List.getElem_cons_succ, List.getElem_cons_zero, List.setIfInBounds_toArray, List.set_cons_succ, List.set_cons_zero]
                        go_wp2_with fail
                        go_ret
                        rw [HE.out]
                        exact ⟨rfl, O3.out.ow⟩
                    · have HIn : Hid (∀ j, 1 ≤ j → j ≤ i + 1 → inR (num ⟨k, a, b, f, p, r, v⟩ j) = true) := fun j h1 h2 => by
                        rcases Nat.lt_or_ge i j with h3 | h3
                        · obtain rfl : j = i + 1 := by omega
                          rw [HX.out]; simp [inR]; omega
                        · exact HI.out j h1 h3
                      go_wp2_with fail
                      go_region_with (go_at_call 39; refine (HG2.out _).mono ?_; rintro e w3 ⟨rfl, hb3⟩; have O3 := Lib.hid (HC.out.then (Ow.then (Ow.refl _).drew hb3)); clear hb3)
                      all_goals
                        simp only [Act.put, List.getElem_toArray, List.getElem_cons_succ, List.getElem_cons_zero, List.setIfInBounds_toArray, List.set_cons_succ, List.set_cons_zero]
                        go_wp2_with fail
                        go_roundw
                        case rel => exact ⟨i + 1, by omega, by go_num, HIn, O3⟩
                        case measure => simp [intOf]; omega
                · have hi5 : i = 5 := by omega
                  subst hi5
                  have HE := Lib.hid (Sc.chk_zero (c := ⟨k, a, b, f, p, r, v⟩) HK.out HBo.out HI.out)
                  clear hlt hi
                  go_wp2_with fail
                  go_ret
                  rw [HE.out]
                  exact ⟨rfl, HC.out.ow⟩
  · have HE := Lib.hid (Sc.chk_kind hk)
    have e0 := ba_empty (s := W1) (by rw [hW1]; show (wrd c.k).toArray.size = 0; unfold wrd; rw [if_neg hk]; rfl)
    clear hk hW1 hL
    obtain ⟨k, a, b, f, p, r, v⟩ := c
    unfold ocells at HS ⊢
    go_enter Tryd.func22, Tryd.ntmps22
    go_wp2_with (go_at_call 37; refine (HR.out _).mono ?_; rintro e W ⟨rfl, rfl⟩)
    go_ret
    rw [HE.out]
    exact ⟨rfl, HS.out.ow⟩
end Go.Proofs.YtaojogaakhidhaaDoor

/- The law WordsInverse, walked. -/
import Derived.Test.YtabopillicdjaaaGreatDoorWInv
import Derived.Test.YtabopillicdjaaaGreatDoorWNums
import Derived.Deep.DeepCutAuto
import Derived.Deep.RegionHeld3
namespace Go.Proofs.YtabopillicdjaaaGreatDoor
open Go.RowKit
open Wd (splitS splitE joinS joinE quoteL unquoteS unquoteE listE listS listT plE plS intV intE)

set_option maxRecDepth 100000 in
theorem same_a (va vb : Value) (fs : List (List UInt8 × Bool)) (w : World) (ha : FldsA w va fs) (hb : FldsA w vb fs) (hn : fs.length ≤ 100000) :
    Calls Tryz.prog 9 #[va, vb] w fun e w' => e = .returned (.bool true) ∧ Ow w w' := by
  rcases ha with ⟨rfl, a, cap, rfl⟩ | ⟨hne, ha⟩
  · rcases hb with ⟨_, a', cap', rfl⟩ | ⟨h, _⟩
    · clear hn
      go_enter Tryz.func9, Tryz.ntmps9
      go_wp2
      go_loop [5] (fun i => i = .int .i64 0) (fun _ => 0)
      case atStart => exact rfl
      case round =>
        obtain rfl := hrel
        go_wp2
        go_ret
        exact ⟨rfl, Ow.refl _⟩
    · exact absurd rfl h
  · rcases hb with ⟨h, _⟩ | ⟨_, hb⟩
    · exact absurd h hne
    · exact same_true va vb fs w (.inr ha) (.inr hb) hn
/-- Between the operations of a region: what lay in w lies as it lay. -/
structure Hv (w : World) (g o : Nat) (v : Value) (w' : World) : Prop where
  ow : Ow w w'
  lt : g < w.heap.size
  c : w.cell? ⟨g, o, none⟩ = some v
theorem Hv.all {w : World} {g o : Nat} {v : Value} {w' : World} (h : Hv w g o v w') : Hv w g o v w' ∧ w'.cell? ⟨g, o, none⟩ = some v := ⟨h, (h.ow.cell (p := ⟨g, o, none⟩) h.lt).trans h.c⟩
theorem Hv.drew {w : World} {g o : Nat} {v : Value} {w' : World} (h : Hv w g o v w') : Hv w g o v w'.drew := ⟨h.ow.drew, h.lt, h.c⟩
theorem Hv.after {w : World} {g o : Nat} {v : Value} {W w1 : World} {q : Prop} (hb : Ow W w1) (h : Hv w g o v W ∧ q) : Hv w g o v w1 := ⟨h.1.ow.then hb, h.1.lt, h.1.c⟩
theorem Hv.fin {w : World} {g o : Nat} {v : Value} {W : World} {q : Prop} (h : Hv w g o v W ∧ q) : Ow w W := h.1.ow
set_option maxRecDepth 100000 in
set_option maxHeartbeats 8000000 in
theorem inv_walk (s : ByteArray) (v : Value) (fs : List (List UInt8 × Bool)) (vL : Value) (l : List Int) (N : Int) (w : World) (hz : s.size ≤ maxLen) (hf : FldsA w v fs) (hzf : fs.length ≤ maxLen) (hi : IntsA w vL l) (hzl : l.length ≤ maxLen) (hN : (Lit.int .i64 N).wf = true) (hg : Gl w) :
    Calls Tryz.prog 3 #[.string s, v, .agg #[vL, .int .i64 N]] w fun e w' => e = .returned (.bool true) ∧ Ow w w' := by
  unfold maxLen at hz hzf hzl
  have HG := Lib.hid hg
  have HF := Lib.hid hf
  have HI := Lib.hid hi
  have HE : Hid (Ends N N) := wf_i64 hN
  have HA : Hid (Ow w (w.alloc (.cells #[vL, .int .i64 N] 25))) := (Ow.refl _).alloc _
  have HBx : Hid (∀ i u, (#[vL, Value.int .i64 N] : Array Value)[i]? = some u → (w.alloc (.cells #[vL, .int .i64 N] 25)).cell? ⟨w.heap.size, i, none⟩ = some u) := by
    intro i u hu
    rw [cell_of_row _ _ _ _ _ _ (heap_alloc_new w _)]; exact hu
  have hwb : w.heap.size < (w.alloc (.cells #[vL, .int .i64 N] 25)).heap.size := by simp
  have HWb := Lib.hid hwb
  obtain ⟨sa, sc, hv⟩ : ∃ sa sc, vL = .slice sa l.length sc := by
    rcases hi with ⟨rfl, a, cap, rfl⟩ | ⟨_, g, off, cap, rfl, _⟩
    · exact ⟨_, _, rfl⟩
    · exact ⟨_, _, rfl⟩
  subst hv
  clear hg hf hi hN hwb
  by_cases h1 : 3000 < s.size
  · have e1 : (3000 : Int) < (s.size : Int) := by omega
    clear h1
    go_enter Tryz.func3, Tryz.ntmps3
    go_wp2_with (go_at_call 6; refine (shown_any _ (HG.out.below HA.out)).mono ?_; rintro e w1 ⟨rfl, hb1⟩)
    go_ret
    exact ⟨rfl, HA.out.then hb1⟩
  have e1 : decide ((3000 : Int) < (s.size : Int)) = false := decide_eq_false (by omega)
  have hs : s.size ≤ 3000 := by omega
  cases hfar : farB fs with
  | true =>
    have HFar := Lib.hid hfar
    clear hfar h1
    go_enter Tryz.func3, Tryz.ntmps3
    go_wp2_with (first
      | (go_at_call 5; refine (far_any _ _ _ HFar.out _ (HF.out.then HA.out) hzf).mono ?_; rintro e w1 ⟨rfl, rfl⟩)
      | (go_at_call 6; refine (shown_any _ (HG.out.below HA.out)).mono ?_; rintro e w1 ⟨rfl, hb1⟩))
    go_ret
    exact ⟨rfl, HA.out.then hb1⟩
  | false =>
    have HFar := Lib.hid hfar
    have hfl : fs.length ≤ 70 := far_len hfar
    clear hfar h1
    have c0 := HBx.out 0 _ rfl
    by_cases h5 : 510 < l.length
    · have e5 : (510 : Int) < (l.length : Int) := by omega
      clear h5
      go_enter Tryz.func3, Tryz.ntmps3
      go_wp2_with (first
        | (go_at_call 5; refine (far_any _ _ _ HFar.out _ (HF.out.then HA.out) hzf).mono ?_; rintro e w1 ⟨rfl, rfl⟩)
        | (go_at_call 6; refine (shown_any _ (HG.out.below HA.out)).mono ?_; rintro e w1 ⟨rfl, hb1⟩))
      go_ret
      exact ⟨rfl, HA.out.then hb1⟩
    · have e5 : decide ((510 : Int) < (l.length : Int)) = false := decide_eq_false (by omega)
      have hl : l.length ≤ 510 := by omega
      clear h5
      obtain ⟨m1, hm1⟩ : ∃ m, splitE s.data.toList = m := ⟨_, rfl⟩
      obtain ⟨m2, hm2⟩ : ∃ m, joinE fs = m := ⟨_, rfl⟩
      obtain ⟨tj, htj⟩ : ∃ t : ByteArray, t.data.toList = joinS fs := ⟨⟨(joinS fs).toArray⟩, rfl⟩
      have htjs : tj.size ≤ 9000 := by rw [← ba_len, htj]; have := join_len fs; omega
      have HM1 := Lib.hid hm1
      have HM2 := Lib.hid hm2
      have HTj := Lib.hid htj
      clear hm1 hm2 htj
      go_enter Tryz.func3, Tryz.ntmps3
      go_wp2_with fail
      (go_at_call 5; refine (far_any _ _ _ HFar.out _ (HF.out.then HA.out) (by omega)).mono ?_; rintro e w1 ⟨rfl, rfl⟩)
      go_wp2_with fail
      (go_at_call 7; refine (split_is s m1 HM1.out _ (by omega) (HG.out.below HA.out)).mono ?_; rintro e w1 ⟨va, rfl, hva, hb1⟩)
      have VA : Hid (FldsA w1 va (splitS s.data.toList)) := hva.any
      have O1 := Lib.hid (HA.out.then hb1)
      have D1 : Hid (Ow (w.alloc (.cells #[.slice sa l.length sc, .int .i64 N] 25)) w1) := hb1
      clear hva hb1 c0
      go_upto_if 45 with fail
      go_cut [9, 10] (fun _ _ wx => Ow (w.alloc (.cells #[.slice sa l.length sc, .int .i64 N] 25)) wx)
      case first =>
        by_cases hm0 : m1 = 0
        · subst hm0
          obtain ⟨j1, j2⟩ := split_join HM1.out
          have J1 := Lib.hid j1
          have J2 := Lib.hid j2.symm
          clear j1 j2
          go_wp2_with (go_at_call 8; refine (wjoin_is va _ s 0 J2.out J1.out _ VA.out (Nat.le_trans (splitS_len _) (by decide)) (HG.out.below O1.out)).mono ?_; rintro e w2 ⟨rfl, hb2⟩)
          go_meet
          case rel => exact D1.out.then hb2
        · have em : (m1 == 0) = false := by rw [beq_eq_false_iff_ne]; exact hm0
          clear hm0
          go_wp2
          go_meet
          case rel => exact D1.out
      case rest =>
        have D2 := Lib.hid hcut
        have O2 := Lib.hid (HA.out.then hcut)
        clear hcut VA D1 O1 HM1
        go_wp2_with fail
        (go_at_call 8; refine (wjoin_is _ fs tj m2 HTj.out HM2.out _ (HF.out.then O2.out) (by omega) (HG.out.below O2.out)).mono ?_; rintro e w3 ⟨rfl, hb3⟩)
        have D3 := Lib.hid (D2.out.then hb3)
        have O3 := Lib.hid (O2.out.then hb3)
        clear hb3
        go_upto_if 64 with fail
        go_cut [12, 13] (fun _ _ wx => Ow (w.alloc (.cells #[.slice sa l.length sc, .int .i64 N] 25)) wx)
        case first =>
          by_cases hm0 : m2 = 0
          · subst hm0
            obtain ⟨j1, j2⟩ := join_split HM2.out
            rw [← HTj.out] at j1 j2
            have J1 := Lib.hid j1
            have J2 := Lib.hid j2
            clear j1 j2
            go_wp2_with fail
            (go_at_call 7; refine (split_is tj 0 J1.out _ htjs (HG.out.below O3.out)).mono ?_; rintro e w4 ⟨vb, rfl, hvb, hb4⟩)
            have VB : Hid (FldsA w4 vb fs) := (by rw [J2.out] at hvb; exact hvb.any)
            have D4 := Lib.hid (D3.out.then hb4)
            have O4 := Lib.hid (O3.out.then hb4)
            clear hvb hb4
            go_wp2_with (go_at_call 9; refine (same_a _ _ fs _ VB.out (HF.out.then O4.out) (by omega)).mono ?_; rintro e w5 ⟨rfl, hb5⟩)
            go_meet
            case rel => exact D4.out.then hb5
          · have em : (m2 == 0) = false := by rw [beq_eq_false_iff_ne]; exact hm0
            clear hm0
            go_wp2
            go_meet
            case rel => exact D3.out
        case rest =>
          have D4 := Lib.hid hcut
          have O4 := Lib.hid (HA.out.then hcut)
          clear hcut D2 O2 D3 O3 HM2 HTj htjs
          obtain ⟨uq, huq⟩ : ∃ t : ByteArray, t.data.toList = quoteL s.data.toList := ⟨⟨(quoteL s.data.toList).toArray⟩, rfl⟩
          have huqs : uq.size ≤ 20000 := by have := esc_flat4 s.data.toList; rw [← huq, ba_len, ba_len] at this; omega
          have HUq := Lib.hid huq
          obtain ⟨q1, q2⟩ := quote_back s.data.toList
          rw [← huq] at q1 q2
          have Q1 := Lib.hid q1
          have Q2 := Lib.hid q2.symm
          obtain ⟨mu, hmu⟩ : ∃ m, unquoteE s.data.toList = m := ⟨_, rfl⟩
          obtain ⟨tu, htu⟩ : ∃ t : ByteArray, t.data.toList = unquoteS s.data.toList := ⟨⟨(unquoteS s.data.toList).toArray⟩, rfl⟩
          have htus : tu.size ≤ 9000 := by
            have h1 := Wd.unqS_le s.data.toList
            have h2 : (unquoteS s.data.toList).length ≤ s.data.toList.length := by
              unfold Wd.unquoteS
              split
              · exact h1
              · simp
            rw [← htu, ba_len, ba_len] at h2
            omega
          have HMu := Lib.hid hmu
          have HTu := Lib.hid htu
          clear huq q1 q2 hmu htu
          go_wp2_with fail
          (go_at_call 11; refine (wq_is s uq HUq.out _ (by omega) (HG.out.below O4.out)).mono ?_; rintro e w5 ⟨rfl, hb5⟩)
          have D5 := Lib.hid (D4.out.then hb5)
          have O5 := Lib.hid (O4.out.then hb5)
          clear hb5
          go_wp2_with fail
          (go_at_call 10; refine (wu_is uq s 0 Q2.out Q1.out _ huqs (HG.out.below O5.out)).mono ?_; rintro e w6 ⟨rfl, hb6⟩)
          have D6 := Lib.hid (D5.out.then hb6)
          have O6 := Lib.hid (O5.out.then hb6)
          clear hb6
          go_wp2_with fail
          (go_at_call 10; refine (wu_is s tu mu HTu.out HMu.out _ (by omega) (HG.out.below O6.out)).mono ?_; rintro e w7 ⟨rfl, hb7⟩)
          have D7 := Lib.hid (D6.out.then hb7)
          have O7 := Lib.hid (O6.out.then hb7)
          clear hb7
          go_upto_region 15 with fail
          go_cut [105] (fun x wx => x = .bool false ∧ Ow (w.alloc (.cells #[.slice sa l.length sc, .int .i64 N] 25)) wx)
          case first =>
            by_cases hm0 : mu = 0
            · subst hm0
              have HQb : Hid (s.data.toList = quoteL tu.data.toList) := by rw [Hid, HTu.out]; exact (unquote_back HMu.out).symm
              go_wp2_with (go_at_call 11; refine (wq_is tu s HQb.out _ htus (HG.out.below O7.out)).mono ?_; rintro e w8 ⟨rfl, hb8⟩)
              go_meet
              case rel => exact ⟨rfl, D7.out.then hb8⟩
            · have em : (mu == 0) = false := by rw [beq_eq_false_iff_ne]; exact hm0
              clear hm0
              go_wp2
              go_meet
              case rel => exact ⟨rfl, D7.out⟩
          case rest =>
            obtain ⟨rfl, hcut⟩ := hcut
            have D8 := Lib.hid hcut
            have O8 := Lib.hid (HA.out.then hcut)
            clear hcut D4 O4 D5 O5 D6 O6 D7 O7 HUq Q1 Q2 HMu HTu huqs htus
            obtain ⟨m4, hm4⟩ : ∃ m, listE l = m := ⟨_, rfl⟩
            obtain ⟨tl, htl⟩ : ∃ t : ByteArray, t.data.toList = listS l := ⟨⟨(listS l).toArray⟩, rfl⟩
            have htls : tl.size ≤ 9000 := by rw [← ba_len, htl]; have := list_len l; omega
            have HM4 := Lib.hid hm4
            have HTl := Lib.hid htl
            have c8 := (D8.out.cell (p := ⟨w.heap.size, 0, none⟩) HWb.out).trans (HBx.out 0 (.slice sa l.length sc) rfl)
            clear hm4 htl
            go_wp2_with fail
            (go_at_call 12; refine (list_a _ l tl m4 HTl.out HM4.out _ (HI.out.then O8.out) (by omega) (HG.out.below O8.out)).mono ?_; rintro e w9 ⟨rfl, hb9⟩)
            have D9 := Lib.hid (D8.out.then hb9)
            have O9 := Lib.hid (O8.out.then hb9)
            clear hb9 c8
            go_upto_if 113 with fail
            go_cut [18, 19] (fun _ _ wx => Ow (w.alloc (.cells #[.slice sa l.length sc, .int .i64 N] 25)) wx)
            case first =>
              by_cases hm0 : m4 = 0
              · subst hm0
                obtain ⟨j1, j2⟩ := Wd.list_parse HM4.out
                have hT : tl.data.toList = listT l := by rw [HTl.out]; unfold Wd.listS; rw [if_pos HM4.out]
                rw [← hT] at j1 j2
                have J1 := Lib.hid j1
                have J2 := Lib.hid j2
                clear j1 j2 hT
                go_wp2_with fail
                (go_at_call 13; refine (wpl_is tl 0 J1.out l J2.out _ htls (HG.out.below O9.out)).mono ?_; rintro e w10 ⟨vm, rfl, hvm, hb10⟩)
                have VM := Lib.hid hvm
                have D10 := Lib.hid (D9.out.then hb10)
                have O10 := Lib.hid (O9.out.then hb10)
                have c10 := (D10.out.cell (p := ⟨w.heap.size, 0, none⟩) HWb.out).trans (HBx.out 0 (.slice sa l.length sc) rfl)
                clear hvm hb10
                go_wp2_with (go_at_call 14; refine (lists_true _ _ l _ VM.out (HI.out.then O10.out) (by omega)).mono ?_; rintro e w11 ⟨rfl, hb11⟩)
                go_meet
                case rel => exact D10.out.then hb11
              · have em : (m4 == 0) = false := by rw [beq_eq_false_iff_ne]; exact hm0
                clear hm0
                go_wp2
                go_meet
                case rel => exact D9.out
            case rest =>
              have D10 := Lib.hid hcut
              have O10 := Lib.hid (HA.out.then hcut)
              clear hcut D8 O8 D9 O9 HM4 HTl htls
              obtain ⟨m5, hm5⟩ : ∃ m, plE s.data.toList = m := ⟨_, rfl⟩
              obtain ⟨L5, hL5⟩ : ∃ m, plS s.data.toList = m := ⟨_, rfl⟩
              have hL5n : L5.length ≤ 100000 := by have := plS_len s.data.toList; rw [hL5] at this; omega
              have HM5 := Lib.hid hm5
              have HL5 := Lib.hid hL5
              clear hm5 hL5
              go_wp2_with fail
              (go_at_call 13; refine (wpl_is s m5 HM5.out L5 HL5.out _ (by omega) (HG.out.below O10.out)).mono ?_; rintro e w11 ⟨vp, rfl, hvp, hb11⟩)
              have VP := Lib.hid hvp
              have D11 := Lib.hid (D10.out.then hb11)
              have O11 := Lib.hid (O10.out.then hb11)
              clear hvp hb11
              go_upto_if 134 with fail
              go_cut [21, 22] (fun _ _ wx => Ow (w.alloc (.cells #[.slice sa l.length sc, .int .i64 N] 25)) wx)
              case first =>
                by_cases hm0 : m5 = 0
                · subst hm0
                  obtain ⟨j1, j2⟩ := Wd.parse_list HM5.out
                  rw [HL5.out] at j1 j2
                  have J1 := Lib.hid j1
                  have J2 : Hid (s.data.toList = listS L5) := by rw [Hid]; unfold Wd.listS; rw [if_pos j1, j2]
                  clear j1 j2
                  go_wp2_with (go_at_call 12; refine (list_a _ L5 s 0 J2.out J1.out _ VP.out hL5n (HG.out.below O11.out)).mono ?_; rintro e w12 ⟨rfl, hb12⟩)
                  go_meet
                  case rel => exact D11.out.then hb12
                · have em : (m5 == 0) = false := by rw [beq_eq_false_iff_ne]; exact hm0
                  clear hm0
                  go_wp2
                  go_meet
                  case rel => exact D11.out
              case rest =>
                have D12 := Lib.hid hcut
                have O12 := Lib.hid (HA.out.then hcut)
                clear hcut D10 O10 D11 O11 VP HM5 HL5 hL5n
                obtain ⟨ud, hud⟩ : ∃ t : ByteArray, t.data.toList = Lib.itoa N := ⟨⟨(Lib.itoa N).toArray⟩, rfl⟩
                have huds : ud.size ≤ 9000 := by rw [← ba_len, hud]; have := itoa_le HE.out; omega
                have HUd := Lib.hid hud
                have HIb : Hid (intV ud.data.toList N N = N ∧ intE ud.data.toList N N = 0) := by rw [Hid, hud]; exact int_back N
                clear hud
                generalize hW : wc = W12 at D12 O12 ⊢
                have hh : Hv W12 w.heap.size 1 (.int .i64 N) W12 := ⟨Ow.refl _, Nat.lt_of_lt_of_le HWb.out D12.out.size, (D12.out.cell (p := ⟨w.heap.size, 1, none⟩) HWb.out).trans (HBx.out 1 (.int .i64 N) rfl)⟩
                have HG12 := Lib.hid (HG.out.below O12.out)
                go_wp2_with fail
                go_region_held3 (fun w' => Hv W12 w.heap.size 1 (.int .i64 N) w' ∧ w'.cell? ⟨w.heap.size, 1, none⟩ = some (.int .i64 N)) (first | assumption | exact (Hv.drew (by assumption)).all | exact (Hv.after (by assumption) (by assumption)).all) (first
                  | (go_at_call 16; refine (wdig_is N ud HUd.out _ (HG12.out.below (Hv.fin (by assumption))) HE.out).mono ?_; rintro e w13 ⟨rfl, hb13⟩)
                  | (go_at_call 15; refine (wint_is ud N N N 0 HIb.out.1 HIb.out.2 _ huds (HG12.out.below (Hv.fin (by assumption))) HE.out).mono ?_; rintro e w14 ⟨rfl, hb14⟩))
                have D14 : Hid (Ow W12 w14) := Hv.fin (by assumption)
                have O14 := Lib.hid (O12.out.then D14.out)
                have c14 := (D14.out.cell (p := ⟨w.heap.size, 1, none⟩) hh.lt).trans hh.c
                obtain ⟨kv, hkv⟩ : ∃ m, intV s.data.toList (-9223372036854775808) 9223372036854775807 = m := ⟨_, rfl⟩
                obtain ⟨mk, hmk⟩ : ∃ m, intE s.data.toList (-9223372036854775808) 9223372036854775807 = m := ⟨_, rfl⟩
                have hEx : Ends (-9223372036854775808) 9223372036854775807 := ⟨by decide, by decide⟩
                have HEx := Lib.hid hEx
                have HKv := Lib.hid hkv
                have HMk := Lib.hid hmk
                clear hkv hmk hEx
                go_wp2_with fail
                (go_at_call 15; refine (wint_is s _ _ kv mk HKv.out HMk.out _ (by omega) (HG.out.below O14.out) HEx.out).mono ?_; rintro e w15 ⟨rfl, hb15⟩)
                have c15 := (hb15.cell (p := ⟨w.heap.size, 1, none⟩) (Nat.lt_of_lt_of_le hh.lt D14.out.size)).trans c14
                have O15 := Lib.hid (O14.out.then hb15)
                clear hb15
                by_cases hm0 : mk = 0
                · have HSk : Hid (s.data.toList = Lib.itoa kv) := by
                    rw [Hid, ← HKv.out]
                    exact (back_int (by rw [HMk.out]; exact hm0)).symm
                  have HEk : Hid (Ends kv kv) := by
                    have h := HMk.out
                    rw [hm0] at h
                    unfold Wd.intE at h
                    split at h
                    · rename_i hd
                      split at h
                      · rename_i hr
                        have := (int_in hd hr).1
                        rw [HKv.out] at this
                        rw [← this] at hr
                        exact hr
                      · cases h
                    · cases h
                  subst hm0
                  go_wp2_with (first
                    | (go_at_call 16; refine (wdig_is kv s HSk.out _ (HG.out.below O15.out) HEk.out).mono ?_; rintro e w16 ⟨rfl, hb16⟩)
                    | (go_at_call 6; refine (shown_any _ ((HG.out.below O15.out).below hb16)).mono ?_; rintro e w17 ⟨rfl, hb17⟩))
                  go_ret
                  exact ⟨rfl, (O15.out.then hb16).then hb17⟩
                · have em : (mk != 0) = true := by rw [bne_iff_ne]; exact hm0
                  clear hm0
                  go_wp2_with (go_at_call 6; refine (shown_any _ (HG.out.below O15.out)).mono ?_; rintro e w17 ⟨rfl, hb17⟩)
                  go_ret
                  exact ⟨rfl, O15.out.then hb17⟩
end Go.Proofs.YtabopillicdjaaaGreatDoor

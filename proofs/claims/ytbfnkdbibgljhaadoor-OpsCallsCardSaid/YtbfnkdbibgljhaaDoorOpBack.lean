/- The law OpsBack, walked. -/
import Derived.Test.YtbfnkdbibgljhaaDoorOpShn
import Derived.Deep.DeepCutAuto
namespace Go.Proofs.YtbfnkdbibgljhaaDoor
open Go.RowKit
open Sc (OC OA chkE chkA WfA WfC parE parC paE paA parA ansS ansT printS lineT)

/-- The boxes of an operation and of an answer, at every world of the call. -/
structure BK (w : World) (c : OC) (a : OA) (W : World) : Prop where
  ow : Ow w W
  box : Bx w.heap.size (ocells c) 24 W
  abox : Bx (w.heap.size + 1) (acells a) 27 W
theorem BK.start (w : World) (c : OC) (a : OA) : BK w c a ((w.alloc (.cells (ocells c) 24)).alloc (.cells (acells a) 27)) :=
  ⟨((Ow.refl _).alloc _).alloc _, (Bx.new w _ _).alloc _, by simpa using (Bx.new (w.alloc (.cells (ocells c) 24)) (acells a) 27)⟩
theorem BK.then {w : World} {c : OC} {a : OA} {W W' : World} (h : BK w c a W) (hb : Ow W W') : BK w c a W' := ⟨Ow.then h.ow hb, h.box.then hb, h.abox.then hb⟩
theorem BK.alloc {w : World} {c : OC} {a : OA} {W : World} (h : BK w c a W) (o : Obj) : BK w c a (W.alloc o) := h.then ((Ow.refl _).alloc _)
theorem prs_ok {c : OC} (h : chkE c = 0) : printS c = lineT c := by unfold printS; rw [if_pos h]
theorem ans_ok' {c : OC} {a : OA} (h : chkA c a = 0) : ansS c a = ansT c a := by unfold ansS; rw [if_pos h]
theorem prs_len {c : OC} (hw : WfC c) : (printS c).length ≤ 60 := by
  unfold printS; split
  · rename_i h; rw [← Sc.prT_all (Nat.le_refl _)]; exact Sc.prT_len hw h _
  · simp
theorem ans_len {c : OC} {a : OA} (ha : WfA a) : (ansS c a).length ≤ 60 := by
  unfold ansS; split
  · rename_i h
    obtain ⟨_, h2, h3, h4⟩ := Sc.chkA_parts h
    obtain ⟨_, _, b3⟩ := Sc.badA_parts h4
    unfold Sc.ansT
    have hi : ∀ n : Int, -1000000000 ≤ n → n ≤ 1000000000 → (Lib.itoa n).length ≤ 11 := fun n h1 h2 => Sc.itoa_short (by simp only [Sc.inR, decide_eq_true_eq]; exact ⟨h1, h2⟩)
    split
    · have := hi a.e (by omega) (by omega)
      simp [Sc.errT]; omega
    · split
      · split <;> simp [Sc.yesT, Sc.noT]
      · split
        · have := Sc.hexL_len 15 a.v.toNat (by have := ha.2; have h16 : (16 : Nat) ^ (15 + 1) = 18446744073709551616 := by decide
                                               omega)
          omega
        · split
          · rename_i h10
            have := b3 h10
            have h5 := ha.1
            have e1 := hi (a.v / 256) (by omega) (by omega)
            have e2 := hi (a.v % 256) (by omega) (by omega)
            simp; omega
          · simp [Sc.okT]
  · simp
set_option maxRecDepth 100000 in
set_option maxHeartbeats 16000000 in
theorem back_walk (c : OC) (y : OA) (s : ByteArray) (w : World) (hc : WfC c) (hy : WfA y) (_hz : s.size ≤ maxLen) (hg : Gl w) (hd : Db w) :
    Calls Tryd.prog 6 #[.agg (ocells c), .agg (acells y), .string s] w fun e w' => e = .returned (.bool true) ∧ Ow w w' := by
  have HG := Lib.hid hg
  have HD := Lib.hid hd
  have HWc := Lib.hid hc
  have HWy := Lib.hid hy
  have HS := Lib.hid (BK.start w c y)
  clear hg hd hc hy
  obtain ⟨k, a, b, f, p, r, v⟩ := c
  obtain ⟨e, i, x⟩ := y
  have HPp := Lib.hid (fun (u : ByteArray) (m : Int) hu hm W hG hD => print_any ⟨k, a, b, f, p, r, v⟩ u m hu hm HWc.out W hG hD)
  have HAp := Lib.hid (fun (u : ByteArray) (m : Int) hu hm W hG hD => ans_any ⟨k, a, b, f, p, r, v⟩ ⟨e, i, x⟩ u m hu hm HWy.out W hG hD)
  have HQp := Lib.hid (fun (t : ByteArray) (z : OA) (m : Int) hz hm W hs hG => pa_at ⟨k, a, b, f, p, r, v⟩ t z m hz hm W hs hG)
  have HAq := Lib.hid (fun (z : OA) (u : ByteArray) (m : Int) hu hm hz W hG hD => ans_any ⟨k, a, b, f, p, r, v⟩ z u m hu hm hz W hG hD)
  unfold ocells acells at HS
  unfold ocells at HPp HAp HQp HAq
  unfold acells at HAp
  unfold ocells acells
  by_cases hl : 300 < s.size
  · have hl1 : (300 : Int) < (s.size : Int) := by omega
    go_enter Tryd.func6, Tryd.ntmps6
    go_wp2_with (go_at_call 8; refine (shown_any _ (HG.out.below HS.out.ow) (HD.out.below HS.out.ow)).mono ?_; rintro o w1 ⟨rfl, hb1⟩)
    go_ret
    exact ⟨rfl, Ow.then HS.out.ow hb1⟩
  · have hl1 : ¬ (300 : Int) < (s.size : Int) := by omega
    have hs9 : s.size ≤ 9000 := by omega
    clear hl
    obtain ⟨m1, hm1⟩ : ∃ m, chkE ⟨k, a, b, f, p, r, v⟩ = m := ⟨_, rfl⟩
    obtain ⟨u1, hu1⟩ : ∃ u : ByteArray, u.data.toList = printS ⟨k, a, b, f, p, r, v⟩ := ⟨⟨(printS ⟨k, a, b, f, p, r, v⟩).toArray⟩, rfl⟩
    have hus1 : u1.size ≤ 9000 := by rw [← ba_len, hu1]; have := prs_len HWc.out; omega
    have HM1 := Lib.hid (And.intro hu1 hm1)
    obtain ⟨m2, hm2⟩ : ∃ m, chkA ⟨k, a, b, f, p, r, v⟩ ⟨e, i, x⟩ = m := ⟨_, rfl⟩
    obtain ⟨u2, hu2⟩ : ∃ u : ByteArray, u.data.toList = ansS ⟨k, a, b, f, p, r, v⟩ ⟨e, i, x⟩ := ⟨⟨(ansS ⟨k, a, b, f, p, r, v⟩ ⟨e, i, x⟩).toArray⟩, rfl⟩
    have hus2 : u2.size ≤ 9000 := by rw [← ba_len, hu2]; have := ans_len (c := ⟨k, a, b, f, p, r, v⟩) HWy.out; omega
    have HM2 := Lib.hid (And.intro hu2 hm2)
    obtain ⟨m3, hm3⟩ : ∃ m, parE s.data.toList = m := ⟨_, rfl⟩
    obtain ⟨d, hd3⟩ : ∃ d, parC s.data.toList = d := ⟨_, rfl⟩
    have HM3 := Lib.hid (And.intro hd3 hm3)
    obtain ⟨m4, hm4⟩ : ∃ m, paE ⟨k, a, b, f, p, r, v⟩ s.data.toList = m := ⟨_, rfl⟩
    obtain ⟨z, hz4⟩ : ∃ z, paA ⟨k, a, b, f, p, r, v⟩ s.data.toList = z := ⟨_, rfl⟩
    have HM4 := Lib.hid (And.intro hz4 hm4)
    clear hm1 hu1 hm2 hu2 hm3 hd3 hm4 hz4
    go_enter Tryd.func6, Tryd.ntmps6
    go_upto_if 30 with (go_at_call 16; refine (HPp.out u1 m1 HM1.out.1 HM1.out.2 _ (HG.out.below HS.out.ow) (HD.out.below HS.out.ow)).mono ?_; rintro o w1 ⟨rfl, hb1⟩; have H1 := Lib.hid (HS.out.then hb1); clear hb1)
    go_cut [8] (fun _ wx => Hid (BK w ⟨k, a, b, f, p, r, v⟩ ⟨e, i, x⟩ wx))
    case first =>
      by_cases h0 : m1 = 0
      · subst h0
        have HPa : Hid (parC u1.data.toList = ⟨k, a, b, f, p, r, v⟩ ∧ parE u1.data.toList = 0) := by
          rw [Hid, HM1.out.1, prs_ok HM1.out.2]
          have := Sc.parse_print HWc.out HM1.out.2
          exact ⟨this.2, this.1⟩
        have HPc := Lib.hid (fun W hG => parse_at u1 ⟨k, a, b, f, p, r, v⟩ 0 HPa.out.1 HPa.out.2 W hus1 hG)
        unfold ocells at HPc
        go_wp2_with (go_at_call 15; refine (HPc.out _ (HG.out.below H1.out.ow)).mono ?_; rintro o w2 ⟨rfl, hb2⟩; have H2 := Lib.hid (H1.out.then hb2); clear hb2; have r0 : w2.cell? ⟨w.heap.size, 0, none⟩ = some (.int .i64 k) := H2.out.box.at rfl; have r1 : w2.cell? ⟨w.heap.size, 1, none⟩ = some (.int .i64 a) := H2.out.box.at rfl; have r2 : w2.cell? ⟨w.heap.size, 2, none⟩ = some (.int .i64 b) := H2.out.box.at rfl; have r3 : w2.cell? ⟨w.heap.size, 3, none⟩ = some (.int .i64 f) := H2.out.box.at rfl; have r4 : w2.cell? ⟨w.heap.size, 4, none⟩ = some (.int .i64 p) := H2.out.box.at rfl; have r5 : w2.cell? ⟨w.heap.size, 5, none⟩ = some (.int .i64 r) := H2.out.box.at rfl; have r6 : w2.cell? ⟨w.heap.size, 6, none⟩ = some (.int .u64 v) := H2.out.box.at rfl; have a0 : w2.cell? ⟨w.heap.size + 1, 0, none⟩ = some (.int .i64 e) := H2.out.abox.at rfl; have a1 : w2.cell? ⟨w.heap.size + 1, 1, none⟩ = some (.bool i) := H2.out.abox.at rfl; have a2 : w2.cell? ⟨w.heap.size + 1, 2, none⟩ = some (.int .u64 x) := H2.out.abox.at rfl; have l1 := H2.out.box.lt; have l2 := H2.out.abox.lt)
        go_meet
        case rel => exact H2.out.alloc _
      · have hb : (m1 == 0) = false := beq_eq_false_iff_ne.2 h0
        clear h0
        go_wp2_with fail
        go_meet
        case rel => exact H1
    case rest =>
      have HB := Lib.hid hcut.out
      clear hcut
      have r0 : wc.cell? ⟨w.heap.size, 0, none⟩ = some (.int .i64 k) := HB.out.box.at rfl
      have r1 : wc.cell? ⟨w.heap.size, 1, none⟩ = some (.int .i64 a) := HB.out.box.at rfl
      have r2 : wc.cell? ⟨w.heap.size, 2, none⟩ = some (.int .i64 b) := HB.out.box.at rfl
      have r3 : wc.cell? ⟨w.heap.size, 3, none⟩ = some (.int .i64 f) := HB.out.box.at rfl
      have r4 : wc.cell? ⟨w.heap.size, 4, none⟩ = some (.int .i64 p) := HB.out.box.at rfl
      have r5 : wc.cell? ⟨w.heap.size, 5, none⟩ = some (.int .i64 r) := HB.out.box.at rfl
      have r6 : wc.cell? ⟨w.heap.size, 6, none⟩ = some (.int .u64 v) := HB.out.box.at rfl
      have a0 : wc.cell? ⟨w.heap.size + 1, 0, none⟩ = some (.int .i64 e) := HB.out.abox.at rfl
      have a1 : wc.cell? ⟨w.heap.size + 1, 1, none⟩ = some (.bool i) := HB.out.abox.at rfl
      have a2 : wc.cell? ⟨w.heap.size + 1, 2, none⟩ = some (.int .u64 x) := HB.out.abox.at rfl
      have l1 := HB.out.box.lt
      have l2 := HB.out.abox.lt
      go_upto_if 50 with (go_at_call 9; refine (HAp.out u2 m2 HM2.out.1 HM2.out.2 _ (HG.out.below HB.out.ow) (HD.out.below HB.out.ow)).mono ?_; rintro o w1 ⟨rfl, hb1⟩; have H1 := Lib.hid (HB.out.then hb1); clear hb1)
      clear r0 r1 r2 r3 r4 r5 r6 a0 a1 a2 l1 l2
      go_cut [8] (fun _ wx => Hid (BK w ⟨k, a, b, f, p, r, v⟩ ⟨e, i, x⟩ wx))
      case first =>
        by_cases h0 : m2 = 0
        · subst h0
          have HPa : Hid (paA ⟨k, a, b, f, p, r, v⟩ u2.data.toList = ⟨e, i, x⟩ ∧ paE ⟨k, a, b, f, p, r, v⟩ u2.data.toList = 0) := by
            rw [Hid, HM2.out.1, ans_ok' HM2.out.2]
            have := paE_ok (Sc.chkA_parts HM2.out.2).1 (Sc.parse_ans HWy.out HM2.out.2)
            exact ⟨this.2, this.1⟩
          have HPc := Lib.hid (fun W hG => HQp.out u2 ⟨e, i, x⟩ 0 HPa.out.1 HPa.out.2 W hus2 hG)
          unfold acells at HPc
          have r0 : w1.cell? ⟨w.heap.size, 0, none⟩ = some (.int .i64 k) := H1.out.box.at rfl
          have r1 : w1.cell? ⟨w.heap.size, 1, none⟩ = some (.int .i64 a) := H1.out.box.at rfl
          have r2 : w1.cell? ⟨w.heap.size, 2, none⟩ = some (.int .i64 b) := H1.out.box.at rfl
          have r3 : w1.cell? ⟨w.heap.size, 3, none⟩ = some (.int .i64 f) := H1.out.box.at rfl
          have r4 : w1.cell? ⟨w.heap.size, 4, none⟩ = some (.int .i64 p) := H1.out.box.at rfl
          have r5 : w1.cell? ⟨w.heap.size, 5, none⟩ = some (.int .i64 r) := H1.out.box.at rfl
          have r6 : w1.cell? ⟨w.heap.size, 6, none⟩ = some (.int .u64 v) := H1.out.box.at rfl
          have a0 : w1.cell? ⟨w.heap.size + 1, 0, none⟩ = some (.int .i64 e) := H1.out.abox.at rfl
          have a1 : w1.cell? ⟨w.heap.size + 1, 1, none⟩ = some (.bool i) := H1.out.abox.at rfl
          have a2 : w1.cell? ⟨w.heap.size + 1, 2, none⟩ = some (.int .u64 x) := H1.out.abox.at rfl
          have l1 := H1.out.box.lt
          have l2 := H1.out.abox.lt
          go_wp2_with (go_at_call 11; refine (HPc.out _ (HG.out.below H1.out.ow)).mono ?_; rintro o w2 ⟨rfl, hb2⟩; have H2 := Lib.hid (H1.out.then hb2); clear hb2; clear r0 r1 r2 r3 r4 r5 r6 a0 a1 a2 l1 l2; have r0 : w2.cell? ⟨w.heap.size, 0, none⟩ = some (.int .i64 k) := H2.out.box.at rfl; have r1 : w2.cell? ⟨w.heap.size, 1, none⟩ = some (.int .i64 a) := H2.out.box.at rfl; have r2 : w2.cell? ⟨w.heap.size, 2, none⟩ = some (.int .i64 b) := H2.out.box.at rfl; have r3 : w2.cell? ⟨w.heap.size, 3, none⟩ = some (.int .i64 f) := H2.out.box.at rfl; have r4 : w2.cell? ⟨w.heap.size, 4, none⟩ = some (.int .i64 p) := H2.out.box.at rfl; have r5 : w2.cell? ⟨w.heap.size, 5, none⟩ = some (.int .i64 r) := H2.out.box.at rfl; have r6 : w2.cell? ⟨w.heap.size, 6, none⟩ = some (.int .u64 v) := H2.out.box.at rfl; have a0 : w2.cell? ⟨w.heap.size + 1, 0, none⟩ = some (.int .i64 e) := H2.out.abox.at rfl; have a1 : w2.cell? ⟨w.heap.size + 1, 1, none⟩ = some (.bool i) := H2.out.abox.at rfl; have a2 : w2.cell? ⟨w.heap.size + 1, 2, none⟩ = some (.int .u64 x) := H2.out.abox.at rfl; have l1 := H2.out.box.lt; have l2 := H2.out.abox.lt)
          go_meet
          case rel => exact H2.out.alloc _
        · have hb : (m2 == 0) = false := beq_eq_false_iff_ne.2 h0
          clear h0
          go_wp2_with fail
          go_meet
          case rel => exact H1
      case rest =>
        have HB2 := Lib.hid hcut.out
        clear hcut HB
        obtain ⟨dk, da, db, df, dp, dr, dv⟩ := d
        have HPc := Lib.hid (fun W hG => parse_at s ⟨dk, da, db, df, dp, dr, dv⟩ m3 HM3.out.1 HM3.out.2 W hs9 hG)
        unfold ocells at HPc
        go_upto_if 70 with (go_at_call 15; refine (HPc.out _ (HG.out.below HB2.out.ow)).mono ?_; rintro o w1 ⟨rfl, hb1⟩; have H1 := Lib.hid (HB2.out.then hb1); clear hb1)
        go_cut [8] (fun _ wx => Hid (BK w ⟨k, a, b, f, p, r, v⟩ ⟨e, i, x⟩ wx))
        case first =>
          by_cases h0 : m3 = 0
          · subst h0
            have HPr : Hid (WfC ⟨dk, da, db, df, dp, dr, dv⟩ ∧ s.data.toList = printS ⟨dk, da, db, df, dp, dr, dv⟩ ∧ chkE ⟨dk, da, db, df, dp, dr, dv⟩ = 0) := by
              obtain ⟨p1, p2, p3⟩ := Sc.print_parse HM3.out.2
              rw [HM3.out.1] at p1 p2 p3
              exact ⟨p3, by rw [prs_ok p1, p2], p1⟩
            have HPx := Lib.hid (fun W hG hD => print_any ⟨dk, da, db, df, dp, dr, dv⟩ s 0 HPr.out.2.1 HPr.out.2.2 HPr.out.1 W hG hD)
            unfold ocells at HPx
            go_wp2_with (go_at_call 16; refine (HPx.out _ (HG.out.below (H1.out.alloc _).ow) (HD.out.below (H1.out.alloc _).ow)).mono ?_; rintro o w2 ⟨rfl, hb2⟩; have H2 := Lib.hid ((H1.out.alloc _).then hb2); clear hb2)
            go_meet
            case rel => exact H2
          · have hb : (m3 == 0) = false := beq_eq_false_iff_ne.2 h0
            clear h0
            go_wp2_with fail
            go_meet
            case rel => exact H1.out.alloc _
        case rest =>
          have HB3 := Lib.hid hcut.out
          clear hcut HB2
          obtain ⟨ze, zi, zx⟩ := z
          have HPc := Lib.hid (fun W hG => HQp.out s ⟨ze, zi, zx⟩ m4 HM4.out.1 HM4.out.2 W hs9 hG)
          unfold acells at HPc
          have r0 : wc.cell? ⟨w.heap.size, 0, none⟩ = some (.int .i64 k) := HB3.out.box.at rfl
          have r1 : wc.cell? ⟨w.heap.size, 1, none⟩ = some (.int .i64 a) := HB3.out.box.at rfl
          have r2 : wc.cell? ⟨w.heap.size, 2, none⟩ = some (.int .i64 b) := HB3.out.box.at rfl
          have r3 : wc.cell? ⟨w.heap.size, 3, none⟩ = some (.int .i64 f) := HB3.out.box.at rfl
          have r4 : wc.cell? ⟨w.heap.size, 4, none⟩ = some (.int .i64 p) := HB3.out.box.at rfl
          have r5 : wc.cell? ⟨w.heap.size, 5, none⟩ = some (.int .i64 r) := HB3.out.box.at rfl
          have r6 : wc.cell? ⟨w.heap.size, 6, none⟩ = some (.int .u64 v) := HB3.out.box.at rfl
          have a0 : wc.cell? ⟨w.heap.size + 1, 0, none⟩ = some (.int .i64 e) := HB3.out.abox.at rfl
          have a1 : wc.cell? ⟨w.heap.size + 1, 1, none⟩ = some (.bool i) := HB3.out.abox.at rfl
          have a2 : wc.cell? ⟨w.heap.size + 1, 2, none⟩ = some (.int .u64 x) := HB3.out.abox.at rfl
          have l1 := HB3.out.box.lt
          have l2 := HB3.out.abox.lt
          by_cases h0 : m4 = 0
          · subst h0
            have HPr : Hid (WfA ⟨ze, zi, zx⟩ ∧ s.data.toList = ansS ⟨k, a, b, f, p, r, v⟩ ⟨ze, zi, zx⟩ ∧ chkA ⟨k, a, b, f, p, r, v⟩ ⟨ze, zi, zx⟩ = 0) := by
              have hcz : chkE ⟨k, a, b, f, p, r, v⟩ = 0 := by
                by_cases hh : chkE ⟨k, a, b, f, p, r, v⟩ = 0
                · exact hh
                · exact absurd ((paE_bad (l := s.data.toList) hh).1.symm.trans HM4.out.2) hh
              cases hp : parA ⟨k, a, b, f, p, r, v⟩ s.data.toList with
              | none => exact absurd ((paE_no hcz hp).1.symm.trans HM4.out.2) (by decide)
              | some q =>
                have := (paE_ok hcz hp).2
                rw [HM4.out.1] at this
                subst this
                obtain ⟨p1, p2, p3⟩ := Sc.ans_parse hcz hp
                exact ⟨p3, by rw [ans_ok' p1, p2], p1⟩
            have HPx := Lib.hid (fun W hG hD => HAq.out ⟨ze, zi, zx⟩ s 0 HPr.out.2.1 HPr.out.2.2 HPr.out.1 W hG hD)
            unfold acells at HPx
            go_wp2_with fail
            (go_at_call 11; refine (HPc.out _ (HG.out.below HB3.out.ow)).mono ?_; rintro o w1 ⟨rfl, hb1⟩; have H1 := Lib.hid (HB3.out.then hb1); clear hb1; clear r0 r1 r2 r3 r4 r5 r6 a0 a1 a2 l1 l2)
            have r0 : w1.cell? ⟨w.heap.size, 0, none⟩ = some (.int .i64 k) := H1.out.box.at rfl
            have r1 : w1.cell? ⟨w.heap.size, 1, none⟩ = some (.int .i64 a) := H1.out.box.at rfl
            have r2 : w1.cell? ⟨w.heap.size, 2, none⟩ = some (.int .i64 b) := H1.out.box.at rfl
            have r3 : w1.cell? ⟨w.heap.size, 3, none⟩ = some (.int .i64 f) := H1.out.box.at rfl
            have r4 : w1.cell? ⟨w.heap.size, 4, none⟩ = some (.int .i64 p) := H1.out.box.at rfl
            have r5 : w1.cell? ⟨w.heap.size, 5, none⟩ = some (.int .i64 r) := H1.out.box.at rfl
            have r6 : w1.cell? ⟨w.heap.size, 6, none⟩ = some (.int .u64 v) := H1.out.box.at rfl
            have a0 : w1.cell? ⟨w.heap.size + 1, 0, none⟩ = some (.int .i64 e) := H1.out.abox.at rfl
            have a1 : w1.cell? ⟨w.heap.size + 1, 1, none⟩ = some (.bool i) := H1.out.abox.at rfl
            have a2 : w1.cell? ⟨w.heap.size + 1, 2, none⟩ = some (.int .u64 x) := H1.out.abox.at rfl
            have l1 := H1.out.box.lt
            have l2 := H1.out.abox.lt
            go_wp2_with fail
            (go_at_call 9; refine (HPx.out _ (HG.out.below (H1.out.alloc _).ow) (HD.out.below (H1.out.alloc _).ow)).mono ?_; rintro o w2 ⟨rfl, hb2⟩; have H2 := Lib.hid ((H1.out.alloc _).then hb2); clear hb2; clear r0 r1 r2 r3 r4 r5 r6 a0 a1 a2 l1 l2)
            go_wp2_with (go_at_call 8; refine (shown_any _ (HG.out.below H2.out.ow) (HD.out.below H2.out.ow)).mono ?_; rintro o w3 ⟨rfl, hb3⟩)
            go_ret
            exact ⟨rfl, Ow.then H2.out.ow hb3⟩
          · have hb : (m4 == 0) = false := beq_eq_false_iff_ne.2 h0
            clear h0
            go_wp2_with fail
            (go_at_call 11; refine (HPc.out _ (HG.out.below HB3.out.ow)).mono ?_; rintro o w1 ⟨rfl, hb1⟩; have H1 := Lib.hid (HB3.out.then hb1); clear hb1; clear r0 r1 r2 r3 r4 r5 r6 a0 a1 a2 l1 l2)
            go_wp2_with (go_at_call 8; refine (shown_any _ (HG.out.below (H1.out.alloc _).ow) (HD.out.below (H1.out.alloc _).ow)).mono ?_; rintro o w3 ⟨rfl, hb3⟩)
            go_ret
            exact ⟨rfl, Ow.then (H1.out.alloc _).ow hb3⟩
end Go.Proofs.YtbfnkdbibgljhaaDoor

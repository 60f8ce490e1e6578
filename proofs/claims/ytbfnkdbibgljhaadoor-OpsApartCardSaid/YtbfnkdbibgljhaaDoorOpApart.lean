/- The law OpsApart, walked. -/
import Derived.Test.YtbfnkdbibgljhaaDoorOpBack
namespace Go.Proofs.YtbfnkdbibgljhaaDoor
open Go.RowKit
open Sc (OC OA chkE chkA WfA WfC ansS ansT printS lineT)

/-- The boxes of two operations and of two answers, at every world of the call. -/
structure BA (w : World) (c d : OC) (a b : OA) (W : World) : Prop where
  ow : Ow w W
  box : Bx w.heap.size (ocells c) 24 W
  dbox : Bx (w.heap.size + 1) (ocells d) 24 W
  xbox : Bx (w.heap.size + 1 + 1) (acells a ++ acells b) 40 W
theorem BA.start (w : World) (c d : OC) (a b : OA) : BA w c d a b (((w.alloc (.cells (ocells c) 24)).alloc (.cells (ocells d) 24)).alloc (.cells (acells a ++ acells b) 40)) :=
  ⟨(((Ow.refl _).alloc _).alloc _).alloc _, ((Bx.new w _ _).alloc _).alloc _, by simpa using (Bx.new (w.alloc (.cells (ocells c) 24)) (ocells d) 24).alloc (.cells (acells a ++ acells b) 40), by simpa using (Bx.new ((w.alloc (.cells (ocells c) 24)).alloc (.cells (ocells d) 24)) (acells a ++ acells b) 40)⟩
theorem BA.then {w : World} {c d : OC} {a b : OA} {W W' : World} (h : BA w c d a b W) (hb : Ow W W') : BA w c d a b W' := ⟨Ow.then h.ow hb, h.box.then hb, h.dbox.then hb, h.xbox.then hb⟩
theorem oc_diff {k a b f p r v dk da db df dp dr dv : Int} (h : (⟨k, a, b, f, p, r, v⟩ : OC) ≠ ⟨dk, da, db, df, dp, dr, dv⟩) : (k ≠ dk) ∨ (k = dk ∧ a ≠ da) ∨ (k = dk ∧ a = da ∧ b ≠ db) ∨ (k = dk ∧ a = da ∧ b = db ∧ f ≠ df) ∨ (k = dk ∧ a = da ∧ b = db ∧ f = df ∧ p ≠ dp) ∨ (k = dk ∧ a = da ∧ b = db ∧ f = df ∧ p = dp ∧ r ≠ dr) ∨ (k = dk ∧ a = da ∧ b = db ∧ f = df ∧ p = dp ∧ r = dr ∧ v ≠ dv) := by
  simp only [ne_eq, OC.mk.injEq] at h
  omega
theorem oa_diff {e x e2 x2 : Int} {i i2 : Bool} (h : (⟨e, i, x⟩ : OA) ≠ ⟨e2, i2, x2⟩) : e ≠ e2 ∨ (e = e2 ∧ x = x2 ∧ i ≠ i2) ∨ (e = e2 ∧ x ≠ x2) := by
  simp only [ne_eq, OA.mk.injEq] at h
  by_cases h1 : e = e2
  · by_cases h2 : x = x2
    · exact .inr (.inl ⟨h1, h2, fun h3 => h ⟨h1, h3, h2⟩⟩)
    · exact .inr (.inr ⟨h1, h2⟩)
  · exact .inl h1
set_option maxRecDepth 100000 in
set_option maxHeartbeats 16000000 in
theorem apart_walk (c d : OC) (y z : OA) (w : World) (hc : WfC c) (hdd : WfC d) (hy : WfA y) (hz : WfA z) (hg : Gl w) (hd : Db w) :
    Calls Tryd.prog 7 #[.agg (ocells c), .agg (ocells d), .agg (acells y ++ acells z)] w fun e w' => e = .returned (.bool true) ∧ Ow w w' := by
  have HG := Lib.hid hg
  have HD := Lib.hid hd
  have HWc := Lib.hid hc
  have HWd := Lib.hid hdd
  have HWy := Lib.hid hy
  have HWz := Lib.hid hz
  have HS := Lib.hid (BA.start w c d y z)
  clear hg hd hc hdd hy hz
  obtain ⟨k, a, b, f, p, r, v⟩ := c
  obtain ⟨dk, da, db, df, dp, dr, dv⟩ := d
  obtain ⟨e, i, x⟩ := y
  obtain ⟨e2, i2, x2⟩ := z
  obtain ⟨u1, hu1⟩ : ∃ u : ByteArray, u.data.toList = printS ⟨k, a, b, f, p, r, v⟩ := ⟨⟨(printS ⟨k, a, b, f, p, r, v⟩).toArray⟩, rfl⟩
  obtain ⟨u2, hu2⟩ : ∃ u : ByteArray, u.data.toList = printS ⟨dk, da, db, df, dp, dr, dv⟩ := ⟨⟨(printS ⟨dk, da, db, df, dp, dr, dv⟩).toArray⟩, rfl⟩
  obtain ⟨t1, ht1⟩ : ∃ u : ByteArray, u.data.toList = ansS ⟨k, a, b, f, p, r, v⟩ ⟨e, i, x⟩ := ⟨⟨(ansS ⟨k, a, b, f, p, r, v⟩ ⟨e, i, x⟩).toArray⟩, rfl⟩
  obtain ⟨t2, ht2⟩ : ∃ u : ByteArray, u.data.toList = ansS ⟨k, a, b, f, p, r, v⟩ ⟨e2, i2, x2⟩ := ⟨⟨(ansS ⟨k, a, b, f, p, r, v⟩ ⟨e2, i2, x2⟩).toArray⟩, rfl⟩
  obtain ⟨m1, hm1⟩ : ∃ m, chkE ⟨k, a, b, f, p, r, v⟩ = m := ⟨_, rfl⟩
  obtain ⟨m2, hm2⟩ : ∃ m, chkE ⟨dk, da, db, df, dp, dr, dv⟩ = m := ⟨_, rfl⟩
  obtain ⟨n1, hn1⟩ : ∃ m, chkA ⟨k, a, b, f, p, r, v⟩ ⟨e, i, x⟩ = m := ⟨_, rfl⟩
  obtain ⟨n2, hn2⟩ : ∃ m, chkA ⟨k, a, b, f, p, r, v⟩ ⟨e2, i2, x2⟩ = m := ⟨_, rfl⟩
  have HPc := Lib.hid (fun W hG hD => print_any ⟨k, a, b, f, p, r, v⟩ u1 m1 hu1 hm1 HWc.out W hG hD)
  have HPd := Lib.hid (fun W hG hD => print_any ⟨dk, da, db, df, dp, dr, dv⟩ u2 m2 hu2 hm2 HWd.out W hG hD)
  have HAx := Lib.hid (fun W hG hD => ans_any ⟨k, a, b, f, p, r, v⟩ ⟨e, i, x⟩ t1 n1 ht1 hn1 HWy.out W hG hD)
  have HAy := Lib.hid (fun W hG hD => ans_any ⟨k, a, b, f, p, r, v⟩ ⟨e2, i2, x2⟩ t2 n2 ht2 hn2 HWz.out W hG hD)
  have HU := Lib.hid (And.intro (And.intro hu1 hu2) (And.intro hm1 hm2))
  have HT := Lib.hid (And.intro (And.intro ht1 ht2) (And.intro hn1 hn2))
  clear hu1 hu2 ht1 ht2 hm1 hm2 hn1 hn2
  unfold ocells acells at HS
  unfold ocells at HPc HPd
  unfold ocells acells at HAx HAy
  unfold ocells acells
  simp only [List.append_toArray, List.cons_append, List.nil_append] at HS ⊢
  go_enter Tryd.func7, Tryd.ntmps7
  go_wp2_with fail
  (go_at_call 16; refine (HPc.out _ (HG.out.below HS.out.ow) (HD.out.below HS.out.ow)).mono ?_; rintro o w1 ⟨rfl, hb1⟩; have H1 := Lib.hid (HS.out.then hb1); clear hb1)
  have box0 : w1.cell? ⟨w.heap.size, 0, none⟩ = some (.int .i64 k) := H1.out.box.at rfl
  have box1 : w1.cell? ⟨w.heap.size, 1, none⟩ = some (.int .i64 a) := H1.out.box.at rfl
  have box2 : w1.cell? ⟨w.heap.size, 2, none⟩ = some (.int .i64 b) := H1.out.box.at rfl
  have box3 : w1.cell? ⟨w.heap.size, 3, none⟩ = some (.int .i64 f) := H1.out.box.at rfl
  have box4 : w1.cell? ⟨w.heap.size, 4, none⟩ = some (.int .i64 p) := H1.out.box.at rfl
  have box5 : w1.cell? ⟨w.heap.size, 5, none⟩ = some (.int .i64 r) := H1.out.box.at rfl
  have box6 : w1.cell? ⟨w.heap.size, 6, none⟩ = some (.int .u64 v) := H1.out.box.at rfl
  have dbox0 : w1.cell? ⟨w.heap.size + 1, 0, none⟩ = some (.int .i64 dk) := H1.out.dbox.at rfl
  have dbox1 : w1.cell? ⟨w.heap.size + 1, 1, none⟩ = some (.int .i64 da) := H1.out.dbox.at rfl
  have dbox2 : w1.cell? ⟨w.heap.size + 1, 2, none⟩ = some (.int .i64 db) := H1.out.dbox.at rfl
  have dbox3 : w1.cell? ⟨w.heap.size + 1, 3, none⟩ = some (.int .i64 df) := H1.out.dbox.at rfl
  have dbox4 : w1.cell? ⟨w.heap.size + 1, 4, none⟩ = some (.int .i64 dp) := H1.out.dbox.at rfl
  have dbox5 : w1.cell? ⟨w.heap.size + 1, 5, none⟩ = some (.int .i64 dr) := H1.out.dbox.at rfl
  have dbox6 : w1.cell? ⟨w.heap.size + 1, 6, none⟩ = some (.int .u64 dv) := H1.out.dbox.at rfl
  have xb0 : w1.cell? ⟨w.heap.size + 1 + 1, 0, none⟩ = some (.int .i64 e) := H1.out.xbox.at rfl
  have xb1 : w1.cell? ⟨w.heap.size + 1 + 1, 1, none⟩ = some (.bool i) := H1.out.xbox.at rfl
  have xb2 : w1.cell? ⟨w.heap.size + 1 + 1, 2, none⟩ = some (.int .u64 x) := H1.out.xbox.at rfl
  have xb3 : w1.cell? ⟨w.heap.size + 1 + 1, 3, none⟩ = some (.int .i64 e2) := H1.out.xbox.at rfl
  have xb4 : w1.cell? ⟨w.heap.size + 1 + 1, 4, none⟩ = some (.bool i2) := H1.out.xbox.at rfl
  have xb5 : w1.cell? ⟨w.heap.size + 1 + 1, 5, none⟩ = some (.int .u64 x2) := H1.out.xbox.at rfl
  have bl1 := H1.out.box.lt
  have bl2 := H1.out.dbox.lt
  have bl3 := H1.out.xbox.lt
  go_wp2_with fail
  (go_at_call 16; refine (HPd.out _ (HG.out.below H1.out.ow) (HD.out.below H1.out.ow)).mono ?_; rintro o w2 ⟨rfl, hb2⟩; have H2 := Lib.hid (H1.out.then hb2); clear hb2; clear box0 dbox0 box1 dbox1 box2 dbox2 box3 dbox3 box4 dbox4 box5 dbox5 box6 dbox6 xb0 xb1 xb2 xb3 xb4 xb5 bl1 bl2 bl3)
  have box0 : w2.cell? ⟨w.heap.size, 0, none⟩ = some (.int .i64 k) := H2.out.box.at rfl
  have box1 : w2.cell? ⟨w.heap.size, 1, none⟩ = some (.int .i64 a) := H2.out.box.at rfl
  have box2 : w2.cell? ⟨w.heap.size, 2, none⟩ = some (.int .i64 b) := H2.out.box.at rfl
  have box3 : w2.cell? ⟨w.heap.size, 3, none⟩ = some (.int .i64 f) := H2.out.box.at rfl
  have box4 : w2.cell? ⟨w.heap.size, 4, none⟩ = some (.int .i64 p) := H2.out.box.at rfl
  have box5 : w2.cell? ⟨w.heap.size, 5, none⟩ = some (.int .i64 r) := H2.out.box.at rfl
  have box6 : w2.cell? ⟨w.heap.size, 6, none⟩ = some (.int .u64 v) := H2.out.box.at rfl
  have dbox0 : w2.cell? ⟨w.heap.size + 1, 0, none⟩ = some (.int .i64 dk) := H2.out.dbox.at rfl
  have dbox1 : w2.cell? ⟨w.heap.size + 1, 1, none⟩ = some (.int .i64 da) := H2.out.dbox.at rfl
  have dbox2 : w2.cell? ⟨w.heap.size + 1, 2, none⟩ = some (.int .i64 db) := H2.out.dbox.at rfl
  have dbox3 : w2.cell? ⟨w.heap.size + 1, 3, none⟩ = some (.int .i64 df) := H2.out.dbox.at rfl
  have dbox4 : w2.cell? ⟨w.heap.size + 1, 4, none⟩ = some (.int .i64 dp) := H2.out.dbox.at rfl
  have dbox5 : w2.cell? ⟨w.heap.size + 1, 5, none⟩ = some (.int .i64 dr) := H2.out.dbox.at rfl
  have dbox6 : w2.cell? ⟨w.heap.size + 1, 6, none⟩ = some (.int .u64 dv) := H2.out.dbox.at rfl
  have xb0 : w2.cell? ⟨w.heap.size + 1 + 1, 0, none⟩ = some (.int .i64 e) := H2.out.xbox.at rfl
  have xb1 : w2.cell? ⟨w.heap.size + 1 + 1, 1, none⟩ = some (.bool i) := H2.out.xbox.at rfl
  have xb2 : w2.cell? ⟨w.heap.size + 1 + 1, 2, none⟩ = some (.int .u64 x) := H2.out.xbox.at rfl
  have xb3 : w2.cell? ⟨w.heap.size + 1 + 1, 3, none⟩ = some (.int .i64 e2) := H2.out.xbox.at rfl
  have xb4 : w2.cell? ⟨w.heap.size + 1 + 1, 4, none⟩ = some (.bool i2) := H2.out.xbox.at rfl
  have xb5 : w2.cell? ⟨w.heap.size + 1 + 1, 5, none⟩ = some (.int .u64 x2) := H2.out.xbox.at rfl
  have bl1 := H2.out.box.lt
  have bl2 := H2.out.dbox.lt
  have bl3 := H2.out.xbox.lt
  go_upto_region 3 with fail
  go_cut [39] (fun q wx => q = .bool false ∧ Hid (BA w ⟨k, a, b, f, p, r, v⟩ ⟨dk, da, db, df, dp, dr, dv⟩ ⟨e, i, x⟩ ⟨e2, i2, x2⟩ wx))
  case first =>
    by_cases h1 : m1 = 0
    · subst h1
      by_cases h2 : m2 = 0
      · subst h2
        by_cases hcd : (⟨k, a, b, f, p, r, v⟩ : OC) = ⟨dk, da, db, df, dp, dr, dv⟩
        · simp only [OC.mk.injEq] at hcd
          obtain ⟨rfl, rfl, rfl, rfl, rfl, rfl, rfl⟩ := hcd
          obtain rfl : u1 = u2 := ba_ext (by rw [HU.out.1.1, HU.out.1.2])
          go_wp2_with fail
          go_meet
          case rel => exact ⟨rfl, H2⟩
        · have hn : (u1.toList == u2.toList) = false := by
            rw [ba_toList, ba_toList, HU.out.1.1, HU.out.1.2, prs_ok HU.out.2.1, prs_ok HU.out.2.2]
            exact beq_eq_false_iff_ne.2 (fun e => hcd (Sc.print_inj HWc.out HWd.out HU.out.2.1 HU.out.2.2 e))
          rcases oc_diff hcd with h | ⟨rfl, h⟩ | ⟨rfl, rfl, h⟩ | ⟨rfl, rfl, rfl, h⟩ | ⟨rfl, rfl, rfl, rfl, h⟩ | ⟨rfl, rfl, rfl, rfl, rfl, h⟩ | ⟨rfl, rfl, rfl, rfl, rfl, rfl, h⟩
          all_goals
            have hx := beq_eq_false_iff_ne.2 h
            clear h hcd
            go_wp2_with fail
            go_meet
            case rel => exact ⟨rfl, H2⟩
      · have hb := beq_eq_false_iff_ne.2 h2
        clear h2
        go_wp2_with fail
        go_meet
        case rel => exact ⟨rfl, H2⟩
    · have hb := beq_eq_false_iff_ne.2 h1
      clear h1
      go_wp2_with fail
      go_meet
      case rel => exact ⟨rfl, H2⟩
  case rest =>
    obtain ⟨rfl, hcut⟩ := hcut
    have HB := Lib.hid hcut.out
    clear hcut H1 H2
    clear box0 dbox0 box1 dbox1 box2 dbox2 box3 dbox3 box4 dbox4 box5 dbox5 box6 dbox6 xb0 xb1 xb2 xb3 xb4 xb5 bl1 bl2 bl3
    have box0 : wc.cell? ⟨w.heap.size, 0, none⟩ = some (.int .i64 k) := HB.out.box.at rfl
    have box1 : wc.cell? ⟨w.heap.size, 1, none⟩ = some (.int .i64 a) := HB.out.box.at rfl
    have box2 : wc.cell? ⟨w.heap.size, 2, none⟩ = some (.int .i64 b) := HB.out.box.at rfl
    have box3 : wc.cell? ⟨w.heap.size, 3, none⟩ = some (.int .i64 f) := HB.out.box.at rfl
    have box4 : wc.cell? ⟨w.heap.size, 4, none⟩ = some (.int .i64 p) := HB.out.box.at rfl
    have box5 : wc.cell? ⟨w.heap.size, 5, none⟩ = some (.int .i64 r) := HB.out.box.at rfl
    have box6 : wc.cell? ⟨w.heap.size, 6, none⟩ = some (.int .u64 v) := HB.out.box.at rfl
    have dbox0 : wc.cell? ⟨w.heap.size + 1, 0, none⟩ = some (.int .i64 dk) := HB.out.dbox.at rfl
    have dbox1 : wc.cell? ⟨w.heap.size + 1, 1, none⟩ = some (.int .i64 da) := HB.out.dbox.at rfl
    have dbox2 : wc.cell? ⟨w.heap.size + 1, 2, none⟩ = some (.int .i64 db) := HB.out.dbox.at rfl
    have dbox3 : wc.cell? ⟨w.heap.size + 1, 3, none⟩ = some (.int .i64 df) := HB.out.dbox.at rfl
    have dbox4 : wc.cell? ⟨w.heap.size + 1, 4, none⟩ = some (.int .i64 dp) := HB.out.dbox.at rfl
    have dbox5 : wc.cell? ⟨w.heap.size + 1, 5, none⟩ = some (.int .i64 dr) := HB.out.dbox.at rfl
    have dbox6 : wc.cell? ⟨w.heap.size + 1, 6, none⟩ = some (.int .u64 dv) := HB.out.dbox.at rfl
    have xb0 : wc.cell? ⟨w.heap.size + 1 + 1, 0, none⟩ = some (.int .i64 e) := HB.out.xbox.at rfl
    have xb1 : wc.cell? ⟨w.heap.size + 1 + 1, 1, none⟩ = some (.bool i) := HB.out.xbox.at rfl
    have xb2 : wc.cell? ⟨w.heap.size + 1 + 1, 2, none⟩ = some (.int .u64 x) := HB.out.xbox.at rfl
    have xb3 : wc.cell? ⟨w.heap.size + 1 + 1, 3, none⟩ = some (.int .i64 e2) := HB.out.xbox.at rfl
    have xb4 : wc.cell? ⟨w.heap.size + 1 + 1, 4, none⟩ = some (.bool i2) := HB.out.xbox.at rfl
    have xb5 : wc.cell? ⟨w.heap.size + 1 + 1, 5, none⟩ = some (.int .u64 x2) := HB.out.xbox.at rfl
    have bl1 := HB.out.box.lt
    have bl2 := HB.out.dbox.lt
    have bl3 := HB.out.xbox.lt
    go_wp2_with fail
    (go_at_call 9; refine (HAx.out _ (HG.out.below HB.out.ow) (HD.out.below HB.out.ow)).mono ?_; rintro o w3 ⟨rfl, hb3⟩; have H3 := Lib.hid (HB.out.then hb3); clear hb3; clear box0 dbox0 box1 dbox1 box2 dbox2 box3 dbox3 box4 dbox4 box5 dbox5 box6 dbox6 xb0 xb1 xb2 xb3 xb4 xb5 bl1 bl2 bl3)
    have box0 : w3.cell? ⟨w.heap.size, 0, none⟩ = some (.int .i64 k) := H3.out.box.at rfl
    have box1 : w3.cell? ⟨w.heap.size, 1, none⟩ = some (.int .i64 a) := H3.out.box.at rfl
    have box2 : w3.cell? ⟨w.heap.size, 2, none⟩ = some (.int .i64 b) := H3.out.box.at rfl
    have box3 : w3.cell? ⟨w.heap.size, 3, none⟩ = some (.int .i64 f) := H3.out.box.at rfl
    have box4 : w3.cell? ⟨w.heap.size, 4, none⟩ = some (.int .i64 p) := H3.out.box.at rfl
    have box5 : w3.cell? ⟨w.heap.size, 5, none⟩ = some (.int .i64 r) := H3.out.box.at rfl
    have box6 : w3.cell? ⟨w.heap.size, 6, none⟩ = some (.int .u64 v) := H3.out.box.at rfl
    have dbox0 : w3.cell? ⟨w.heap.size + 1, 0, none⟩ = some (.int .i64 dk) := H3.out.dbox.at rfl
    have dbox1 : w3.cell? ⟨w.heap.size + 1, 1, none⟩ = some (.int .i64 da) := H3.out.dbox.at rfl
    have dbox2 : w3.cell? ⟨w.heap.size + 1, 2, none⟩ = some (.int .i64 db) := H3.out.dbox.at rfl
    have dbox3 : w3.cell? ⟨w.heap.size + 1, 3, none⟩ = some (.int .i64 df) := H3.out.dbox.at rfl
    have dbox4 : w3.cell? ⟨w.heap.size + 1, 4, none⟩ = some (.int .i64 dp) := H3.out.dbox.at rfl
    have dbox5 : w3.cell? ⟨w.heap.size + 1, 5, none⟩ = some (.int .i64 dr) := H3.out.dbox.at rfl
    have dbox6 : w3.cell? ⟨w.heap.size + 1, 6, none⟩ = some (.int .u64 dv) := H3.out.dbox.at rfl
    have xb0 : w3.cell? ⟨w.heap.size + 1 + 1, 0, none⟩ = some (.int .i64 e) := H3.out.xbox.at rfl
    have xb1 : w3.cell? ⟨w.heap.size + 1 + 1, 1, none⟩ = some (.bool i) := H3.out.xbox.at rfl
    have xb2 : w3.cell? ⟨w.heap.size + 1 + 1, 2, none⟩ = some (.int .u64 x) := H3.out.xbox.at rfl
    have xb3 : w3.cell? ⟨w.heap.size + 1 + 1, 3, none⟩ = some (.int .i64 e2) := H3.out.xbox.at rfl
    have xb4 : w3.cell? ⟨w.heap.size + 1 + 1, 4, none⟩ = some (.bool i2) := H3.out.xbox.at rfl
    have xb5 : w3.cell? ⟨w.heap.size + 1 + 1, 5, none⟩ = some (.int .u64 x2) := H3.out.xbox.at rfl
    have bl1 := H3.out.box.lt
    have bl2 := H3.out.dbox.lt
    have bl3 := H3.out.xbox.lt
    go_wp2_with fail
    (go_at_call 9; refine (HAy.out _ (HG.out.below H3.out.ow) (HD.out.below H3.out.ow)).mono ?_; rintro o w4 ⟨rfl, hb4⟩; have H4 := Lib.hid (H3.out.then hb4); clear hb4; clear box0 dbox0 box1 dbox1 box2 dbox2 box3 dbox3 box4 dbox4 box5 dbox5 box6 dbox6 xb0 xb1 xb2 xb3 xb4 xb5 bl1 bl2 bl3)
    have box0 : w4.cell? ⟨w.heap.size, 0, none⟩ = some (.int .i64 k) := H4.out.box.at rfl
    have box1 : w4.cell? ⟨w.heap.size, 1, none⟩ = some (.int .i64 a) := H4.out.box.at rfl
    have box2 : w4.cell? ⟨w.heap.size, 2, none⟩ = some (.int .i64 b) := H4.out.box.at rfl
    have box3 : w4.cell? ⟨w.heap.size, 3, none⟩ = some (.int .i64 f) := H4.out.box.at rfl
    have box4 : w4.cell? ⟨w.heap.size, 4, none⟩ = some (.int .i64 p) := H4.out.box.at rfl
    have box5 : w4.cell? ⟨w.heap.size, 5, none⟩ = some (.int .i64 r) := H4.out.box.at rfl
    have box6 : w4.cell? ⟨w.heap.size, 6, none⟩ = some (.int .u64 v) := H4.out.box.at rfl
    have dbox0 : w4.cell? ⟨w.heap.size + 1, 0, none⟩ = some (.int .i64 dk) := H4.out.dbox.at rfl
    have dbox1 : w4.cell? ⟨w.heap.size + 1, 1, none⟩ = some (.int .i64 da) := H4.out.dbox.at rfl
    have dbox2 : w4.cell? ⟨w.heap.size + 1, 2, none⟩ = some (.int .i64 db) := H4.out.dbox.at rfl
    have dbox3 : w4.cell? ⟨w.heap.size + 1, 3, none⟩ = some (.int .i64 df) := H4.out.dbox.at rfl
    have dbox4 : w4.cell? ⟨w.heap.size + 1, 4, none⟩ = some (.int .i64 dp) := H4.out.dbox.at rfl
    have dbox5 : w4.cell? ⟨w.heap.size + 1, 5, none⟩ = some (.int .i64 dr) := H4.out.dbox.at rfl
    have dbox6 : w4.cell? ⟨w.heap.size + 1, 6, none⟩ = some (.int .u64 dv) := H4.out.dbox.at rfl
    have xb0 : w4.cell? ⟨w.heap.size + 1 + 1, 0, none⟩ = some (.int .i64 e) := H4.out.xbox.at rfl
    have xb1 : w4.cell? ⟨w.heap.size + 1 + 1, 1, none⟩ = some (.bool i) := H4.out.xbox.at rfl
    have xb2 : w4.cell? ⟨w.heap.size + 1 + 1, 2, none⟩ = some (.int .u64 x) := H4.out.xbox.at rfl
    have xb3 : w4.cell? ⟨w.heap.size + 1 + 1, 3, none⟩ = some (.int .i64 e2) := H4.out.xbox.at rfl
    have xb4 : w4.cell? ⟨w.heap.size + 1 + 1, 4, none⟩ = some (.bool i2) := H4.out.xbox.at rfl
    have xb5 : w4.cell? ⟨w.heap.size + 1 + 1, 5, none⟩ = some (.int .u64 x2) := H4.out.xbox.at rfl
    have bl1 := H4.out.box.lt
    have bl2 := H4.out.dbox.lt
    have bl3 := H4.out.xbox.lt
    have HSh := Lib.hid (shown_any w4 (HG.out.below H4.out.ow) (HD.out.below H4.out.ow))
    by_cases h1 : n1 = 0
    · subst h1
      by_cases h2 : n2 = 0
      · subst h2
        by_cases hcd : (⟨e, i, x⟩ : OA) = ⟨e2, i2, x2⟩
        · simp only [OA.mk.injEq] at hcd
          obtain ⟨rfl, rfl, rfl⟩ := hcd
          obtain rfl : t1 = t2 := ba_ext (by rw [HT.out.1.1, HT.out.1.2])
          go_wp2_with (go_at_call 8; refine HSh.out.mono ?_; rintro o w5 ⟨rfl, hb5⟩)
          go_ret
          exact ⟨rfl, Ow.then H4.out.ow hb5⟩
        · have hn : (t1.toList == t2.toList) = false := by
            rw [ba_toList, ba_toList, HT.out.1.1, HT.out.1.2, ans_ok' HT.out.2.1, ans_ok' HT.out.2.2]
            exact beq_eq_false_iff_ne.2 (fun e => hcd (Sc.ans_inj HWy.out HWz.out HT.out.2.1 HT.out.2.2 e))
          rcases oa_diff hcd with h | ⟨rfl, rfl, h⟩ | ⟨rfl, h⟩
          · have hx := beq_eq_false_iff_ne.2 h
            clear h hcd
            go_wp2_with (go_at_call 8; refine HSh.out.mono ?_; rintro o w5 ⟨rfl, hb5⟩)
            go_ret
            exact ⟨rfl, Ow.then H4.out.ow hb5⟩
          · clear hcd
            cases i <;> cases i2
            · exact absurd rfl h
            · clear h
              go_wp2_with (go_at_call 8; refine HSh.out.mono ?_; rintro o w5 ⟨rfl, hb5⟩)
              go_ret
              exact ⟨rfl, Ow.then H4.out.ow hb5⟩
            · clear h
              go_wp2_with (go_at_call 8; refine HSh.out.mono ?_; rintro o w5 ⟨rfl, hb5⟩)
              go_ret
              exact ⟨rfl, Ow.then H4.out.ow hb5⟩
            · exact absurd rfl h
          · have hx := beq_eq_false_iff_ne.2 h
            clear h hcd
            by_cases hi : i = i2
            · subst hi
              go_wp2_with (go_at_call 8; refine HSh.out.mono ?_; rintro o w5 ⟨rfl, hb5⟩)
              go_ret
              exact ⟨rfl, Ow.then H4.out.ow hb5⟩
            · cases i <;> cases i2
              · exact absurd rfl hi
              · clear hi
                go_wp2_with (go_at_call 8; refine HSh.out.mono ?_; rintro o w5 ⟨rfl, hb5⟩)
                go_ret
                exact ⟨rfl, Ow.then H4.out.ow hb5⟩
              · clear hi
                go_wp2_with (go_at_call 8; refine HSh.out.mono ?_; rintro o w5 ⟨rfl, hb5⟩)
                go_ret
                exact ⟨rfl, Ow.then H4.out.ow hb5⟩
              · exact absurd rfl hi
      · have hb := beq_eq_false_iff_ne.2 h2
        clear h2
        go_wp2_with (go_at_call 8; refine HSh.out.mono ?_; rintro o w5 ⟨rfl, hb5⟩)
        go_ret
        exact ⟨rfl, Ow.then H4.out.ow hb5⟩
    · have hb := beq_eq_false_iff_ne.2 h1
      clear h1
      go_wp2_with (go_at_call 8; refine HSh.out.mono ?_; rintro o w5 ⟨rfl, hb5⟩)
      go_ret
      exact ⟨rfl, Ow.then H4.out.ow hb5⟩
end Go.Proofs.YtbfnkdbibgljhaaDoor

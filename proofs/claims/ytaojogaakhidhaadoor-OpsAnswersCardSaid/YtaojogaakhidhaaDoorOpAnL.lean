/- The law OpsAnswers, walked. -/
import Derived.Test.YtaojogaakhidhaaDoorOpRPa
import Derived.Test.YtaojogaakhidhaaDoorOpShn
namespace Go.Proofs.YtaojogaakhidhaaDoor
open Go.RowKit
open Sc (OC OA chkE chkA WfC WfA ansS paE paA)
/-- The boxes of the law: an operation, an answer, the two results. -/
structure YB (w : World) (c : OC) (y : OA) (W : World) : Prop where
  ow : Ow w W
  box : Bx w.heap.size (ocells c) 24 W
  abox : Bx (w.heap.size + 1) (acells y) 27 W
theorem YB.start (w : World) (c : OC) (a : OA) : YB w c a ((w.alloc (.cells (ocells c) 24)).alloc (.cells (acells a) 27)) :=
  ⟨((Ow.refl _).alloc _).alloc _, (Bx.new w _ _).alloc _, by simpa using (Bx.new (w.alloc (.cells (ocells c) 24)) (acells a) 27)⟩
theorem YB.then {w : World} {c : OC} {y : OA} {W W' : World} (h : YB w c y W) (hb : Ow W W') : YB w c y W' := ⟨Ow.then h.ow hb, h.box.then hb, h.abox.then hb⟩
structure YK (w : World) (c : OC) (y z : OA) (B1 B2 : Nat) (W : World) : Prop where
  ow : Ow w W
  box : Bx w.heap.size (ocells c) 24 W
  abox : Bx (w.heap.size + 1) (acells y) 27 W
  xb : Bx B1 (acells z) 27 W
  yb : Bx B2 (acells z) 27 W
theorem YK.then {w : World} {c : OC} {y z : OA} {B1 B2 : Nat} {W W' : World} (h : YK w c y z B1 B2 W) (hb : Ow W W') : YK w c y z B1 B2 W' := ⟨Ow.then h.ow hb, h.box.then hb, h.abox.then hb, h.xb.then hb, h.yb.then hb⟩
theorem YK.all {w : World} {k a b f p r v : Int} {e : Int} {i : Bool} {x : Int} {ze : Int} {zi : Bool} {zv : Int} {B1 B2 : Nat} {w' : World} (h : YK w ⟨k, a, b, f, p, r, v⟩ ⟨e, i, x⟩ ⟨ze, zi, zv⟩ B1 B2 w') : YK w ⟨k, a, b, f, p, r, v⟩ ⟨e, i, x⟩ ⟨ze, zi, zv⟩ B1 B2 w' ∧ w'.cell? ⟨w.heap.size, 0, none⟩ = some (.int .i64 k) ∧ w'.cell? ⟨w.heap.size, 1, none⟩ = some (.int .i64 a) ∧ w'.cell? ⟨w.heap.size, 2, none⟩ = some (.int .i64 b) ∧ w'.cell? ⟨w.heap.size, 3, none⟩ = some (.int .i64 f) ∧ w'.cell? ⟨w.heap.size, 4, none⟩ = some (.int .i64 p) ∧ w'.cell? ⟨w.heap.size, 5, none⟩ = some (.int .i64 r) ∧ w'.cell? ⟨w.heap.size, 6, none⟩ = some (.int .u64 v) ∧ w'.cell? ⟨w.heap.size + 1, 0, none⟩ = some (.int .i64 e) ∧ w'.cell? ⟨w.heap.size + 1, 1, none⟩ = some (.bool i) ∧ w'.cell? ⟨w.heap.size + 1, 2, none⟩ = some (.int .u64 x) ∧ w'.cell? ⟨B1, 0, none⟩ = some (.int .i64 ze) ∧ w'.cell? ⟨B1, 1, none⟩ = some (.bool zi) ∧ w'.cell? ⟨B1, 2, none⟩ = some (.int .u64 zv) ∧ w'.cell? ⟨B2, 0, none⟩ = some (.int .i64 ze) ∧ w'.cell? ⟨B2, 1, none⟩ = some (.bool zi) ∧ w'.cell? ⟨B2, 2, none⟩ = some (.int .u64 zv) := ⟨h, h.box.at rfl, h.box.at rfl, h.box.at rfl, h.box.at rfl, h.box.at rfl, h.box.at rfl, h.box.at rfl, h.abox.at rfl, h.abox.at rfl, h.abox.at rfl, h.xb.at rfl, h.xb.at rfl, h.xb.at rfl, h.yb.at rfl, h.yb.at rfl, h.yb.at rfl⟩
theorem YK.drewA {w : World} {c : OC} {y z : OA} {B1 B2 : Nat} {w' : World} {q : Prop} (h : YK w c y z B1 B2 w' ∧ q) : YK w c y z B1 B2 w'.drew := h.1.then (Ow.refl _).drew
theorem YK.drewB {w : World} {c : OC} {y z : OA} {B1 B2 : Nat} {w' : World} (h : YK w c y z B1 B2 w') : YK w c y z B1 B2 w'.drew := h.then (Ow.refl _).drew
theorem YK.after {w : World} {c : OC} {y z : OA} {B1 B2 : Nat} {w' w1 : World} {q : Prop} (hb : Ow w' w1) (h : YK w c y z B1 B2 w' ∧ q) : YK w c y z B1 B2 w1 := h.1.then hb
theorem YK.fin {w : World} {c : OC} {y z : OA} {B1 B2 : Nat} {w' : World} {q : Prop} (h : YK w c y z B1 B2 w' ∧ q) : Ow w w' := h.1.ow
set_option maxRecDepth 100000 in
set_option maxHeartbeats 16000000 in
theorem answers_walk (c : OC) (y : OA) (s : ByteArray) (w : World) (_hc : WfC c) (hy : WfA y) (_hz : s.size ≤ maxLen) (hg : Gl w) (hd : Db w) :
    Calls Tryd.prog 3 #[.agg (ocells c), .agg (acells y), .string s] w fun e w' => e = .returned (.bool true) ∧ Ow w w' := by
  have HG := Lib.hid hg
  have HD := Lib.hid hd
  have HWy := Lib.hid hy
  have HS := Lib.hid (YB.start w c y)
  have HSh := Lib.hid (fun W (h : Ow w W) => shown_any W (HG.out.below h) (HD.out.below h))
  clear hg hd hy
  obtain ⟨k, a, b, f, p, r, v⟩ := c
  obtain ⟨e, i, x⟩ := y
  by_cases hl : 300 < s.size
  · have hl1 : (300 : Int) < (s.size : Int) := by omega
    unfold ocells acells at HS ⊢
    go_enter Tryd.func3, Tryd.ntmps3
    go_wp2_with (go_at_call 4; refine (HSh.out _ HS.out.ow).mono ?_; rintro o w1 ⟨rfl, hb1⟩)
    go_ret
    exact ⟨rfl, Ow.then HS.out.ow hb1⟩
  · have hl1 : ¬ (300 : Int) < (s.size : Int) := by omega
    have hs9 : s.size ≤ 9000 := by omega
    clear hl
    obtain ⟨m, hm⟩ : ∃ m, chkA ⟨k, a, b, f, p, r, v⟩ ⟨e, i, x⟩ = m := ⟨_, rfl⟩
    obtain ⟨u, hu⟩ : ∃ u : ByteArray, u.data.toList = ansS ⟨k, a, b, f, p, r, v⟩ ⟨e, i, x⟩ := ⟨⟨(ansS ⟨k, a, b, f, p, r, v⟩ ⟨e, i, x⟩).toArray⟩, rfl⟩
    obtain ⟨g, hg⟩ : ∃ m, paE ⟨k, a, b, f, p, r, v⟩ s.data.toList = m := ⟨_, rfl⟩
    obtain ⟨z, hz⟩ : ∃ z, paA ⟨k, a, b, f, p, r, v⟩ s.data.toList = z := ⟨_, rfl⟩
    have HA := Lib.hid (fun W hG hD => ans_any ⟨k, a, b, f, p, r, v⟩ ⟨e, i, x⟩ u m hu hm HWy.out W hG hD)
    have HB := Lib.hid (fun W => rans_any ⟨k, a, b, f, p, r, v⟩ ⟨e, i, x⟩ u m hu hm HWy.out W)
    have HP := Lib.hid (fun W hG => pa_any ⟨k, a, b, f, p, r, v⟩ s W hs9 hG)
    have HQ := Lib.hid (fun W => rpa_any ⟨k, a, b, f, p, r, v⟩ s W hs9)
    have HC := Lib.hid (fun W => cka_any ⟨k, a, b, f, p, r, v⟩ ⟨e, i, x⟩ HWy.out W)
    have HR := Lib.hid (fun W => rcka_any ⟨k, a, b, f, p, r, v⟩ ⟨e, i, x⟩ HWy.out W)
    rw [hg, hz] at HP HQ
    rw [hm] at HC HR
    clear hm hu hg hz hs9
    obtain ⟨ze, zi, zv⟩ := z
    unfold ocells acells at HS HA HB HC HR HP HQ ⊢
    go_enter Tryd.func3, Tryd.ntmps3
    go_wp2_with fail
    (go_at_call 5; refine (HA.out _ (HG.out.below HS.out.ow) (HD.out.below HS.out.ow)).mono ?_; rintro o w1 ⟨rfl, hb1⟩)
    have H1 := Lib.hid (HS.out.then hb1)
    clear hb1
    have q0 : w1.cell? ⟨w.heap.size, 0, none⟩ = some (.int .i64 k) := H1.out.box.at rfl
    have q1 : w1.cell? ⟨w.heap.size, 1, none⟩ = some (.int .i64 a) := H1.out.box.at rfl
    have q2 : w1.cell? ⟨w.heap.size, 2, none⟩ = some (.int .i64 b) := H1.out.box.at rfl
    have q3 : w1.cell? ⟨w.heap.size, 3, none⟩ = some (.int .i64 f) := H1.out.box.at rfl
    have q4 : w1.cell? ⟨w.heap.size, 4, none⟩ = some (.int .i64 p) := H1.out.box.at rfl
    have q5 : w1.cell? ⟨w.heap.size, 5, none⟩ = some (.int .i64 r) := H1.out.box.at rfl
    have q6 : w1.cell? ⟨w.heap.size, 6, none⟩ = some (.int .u64 v) := H1.out.box.at rfl
    have q7 : w1.cell? ⟨w.heap.size + 1, 0, none⟩ = some (.int .i64 e) := H1.out.abox.at rfl
    have q8 : w1.cell? ⟨w.heap.size + 1, 1, none⟩ = some (.bool i) := H1.out.abox.at rfl
    have q9 : w1.cell? ⟨w.heap.size + 1, 2, none⟩ = some (.int .u64 x) := H1.out.abox.at rfl
    have ql := H1.out.box.lt
    have qm := H1.out.abox.lt
    go_wp2_with fail
    (go_at_call 6; refine (HB.out _).mono ?_; rintro o w2 ⟨rfl, hb2⟩)
    have H2 := Lib.hid (H1.out.then hb2)
    clear hb2 q0 q1 q2 q3 q4 q5 q6 q7 q8 q9 ql qm
    have q0 : w2.cell? ⟨w.heap.size, 0, none⟩ = some (.int .i64 k) := H2.out.box.at rfl
    have q1 : w2.cell? ⟨w.heap.size, 1, none⟩ = some (.int .i64 a) := H2.out.box.at rfl
    have q2 : w2.cell? ⟨w.heap.size, 2, none⟩ = some (.int .i64 b) := H2.out.box.at rfl
    have q3 : w2.cell? ⟨w.heap.size, 3, none⟩ = some (.int .i64 f) := H2.out.box.at rfl
    have q4 : w2.cell? ⟨w.heap.size, 4, none⟩ = some (.int .i64 p) := H2.out.box.at rfl
    have q5 : w2.cell? ⟨w.heap.size, 5, none⟩ = some (.int .i64 r) := H2.out.box.at rfl
    have q6 : w2.cell? ⟨w.heap.size, 6, none⟩ = some (.int .u64 v) := H2.out.box.at rfl
    have q7 : w2.cell? ⟨w.heap.size + 1, 0, none⟩ = some (.int .i64 e) := H2.out.abox.at rfl
    have q8 : w2.cell? ⟨w.heap.size + 1, 1, none⟩ = some (.bool i) := H2.out.abox.at rfl
    have q9 : w2.cell? ⟨w.heap.size + 1, 2, none⟩ = some (.int .u64 x) := H2.out.abox.at rfl
    have ql := H2.out.box.lt
    have qm := H2.out.abox.lt
    go_wp2_with fail
    (go_at_call 7; refine (HP.out _ (HG.out.below H2.out.ow)).mono ?_; rintro o w3 ⟨rfl, hb3⟩)
    have H3 := Lib.hid ((H2.out.then hb3).then ((Ow.refl _).alloc (.cells (acells ⟨ze, zi, zv⟩) 27)))
    have HX3 : Hid (Bx w3.heap.size (acells ⟨ze, zi, zv⟩) 27 (w3.alloc (.cells (acells ⟨ze, zi, zv⟩) 27))) := Bx.new _ _ _
    clear hb3 q0 q1 q2 q3 q4 q5 q6 q7 q8 q9 ql qm
    have q0 : (w3.alloc (.cells (acells ⟨ze, zi, zv⟩) 27)).cell? ⟨w.heap.size, 0, none⟩ = some (.int .i64 k) := H3.out.box.at rfl
    have q1 : (w3.alloc (.cells (acells ⟨ze, zi, zv⟩) 27)).cell? ⟨w.heap.size, 1, none⟩ = some (.int .i64 a) := H3.out.box.at rfl
    have q2 : (w3.alloc (.cells (acells ⟨ze, zi, zv⟩) 27)).cell? ⟨w.heap.size, 2, none⟩ = some (.int .i64 b) := H3.out.box.at rfl
    have q3 : (w3.alloc (.cells (acells ⟨ze, zi, zv⟩) 27)).cell? ⟨w.heap.size, 3, none⟩ = some (.int .i64 f) := H3.out.box.at rfl
    have q4 : (w3.alloc (.cells (acells ⟨ze, zi, zv⟩) 27)).cell? ⟨w.heap.size, 4, none⟩ = some (.int .i64 p) := H3.out.box.at rfl
    have q5 : (w3.alloc (.cells (acells ⟨ze, zi, zv⟩) 27)).cell? ⟨w.heap.size, 5, none⟩ = some (.int .i64 r) := H3.out.box.at rfl
    have q6 : (w3.alloc (.cells (acells ⟨ze, zi, zv⟩) 27)).cell? ⟨w.heap.size, 6, none⟩ = some (.int .u64 v) := H3.out.box.at rfl
    have q7 : (w3.alloc (.cells (acells ⟨ze, zi, zv⟩) 27)).cell? ⟨w.heap.size + 1, 0, none⟩ = some (.int .i64 e) := H3.out.abox.at rfl
    have q8 : (w3.alloc (.cells (acells ⟨ze, zi, zv⟩) 27)).cell? ⟨w.heap.size + 1, 1, none⟩ = some (.bool i) := H3.out.abox.at rfl
    have q9 : (w3.alloc (.cells (acells ⟨ze, zi, zv⟩) 27)).cell? ⟨w.heap.size + 1, 2, none⟩ = some (.int .u64 x) := H3.out.abox.at rfl
    have ql := H3.out.box.lt
    have qm := H3.out.abox.lt
    unfold acells at H3 HX3 q0 q1 q2 q3 q4 q5 q6 q7 q8 q9 ql qm
    go_wp2_with fail
    (go_at_call 8; refine (HQ.out _).mono ?_; rintro o w4 ⟨rfl, hb4⟩)
    have hh : YK w ⟨k, a, b, f, p, r, v⟩ ⟨e, i, x⟩ ⟨ze, zi, zv⟩ w3.heap.size w4.heap.size (w4.alloc (.cells (acells ⟨ze, zi, zv⟩) 27)) := ⟨((H3.out.then hb4).then ((Ow.refl _).alloc _)).ow, ((H3.out.then hb4).then ((Ow.refl _).alloc _)).box, ((H3.out.then hb4).then ((Ow.refl _).alloc _)).abox, (HX3.out.then hb4).alloc _, Bx.new _ _ _⟩
    clear hb4 q0 q1 q2 q3 q4 q5 q6 q7 q8 q9 ql qm
    go_wp2_with fail
    unfold acells at hh
    generalize hB1 : w3.heap.size = B1 at *
    generalize hB2 : w4.heap.size = B2 at *
    generalize w4.alloc (.cells #[.int .i64 ze, .bool zi, .int .u64 zv] 27) = W5 at *
    clear hB1 hB2
    go_region_held3 (fun w' => YK w ⟨k, a, b, f, p, r, v⟩ ⟨e, i, x⟩ ⟨ze, zi, zv⟩ B1 B2 w' ∧ w'.cell? ⟨w.heap.size, 0, none⟩ = some (.int .i64 k) ∧ w'.cell? ⟨w.heap.size, 1, none⟩ = some (.int .i64 a) ∧ w'.cell? ⟨w.heap.size, 2, none⟩ = some (.int .i64 b) ∧ w'.cell? ⟨w.heap.size, 3, none⟩ = some (.int .i64 f) ∧ w'.cell? ⟨w.heap.size, 4, none⟩ = some (.int .i64 p) ∧ w'.cell? ⟨w.heap.size, 5, none⟩ = some (.int .i64 r) ∧ w'.cell? ⟨w.heap.size, 6, none⟩ = some (.int .u64 v) ∧ w'.cell? ⟨w.heap.size + 1, 0, none⟩ = some (.int .i64 e) ∧ w'.cell? ⟨w.heap.size + 1, 1, none⟩ = some (.bool i) ∧ w'.cell? ⟨w.heap.size + 1, 2, none⟩ = some (.int .u64 x) ∧ w'.cell? ⟨B1, 0, none⟩ = some (.int .i64 ze) ∧ w'.cell? ⟨B1, 1, none⟩ = some (.bool zi) ∧ w'.cell? ⟨B1, 2, none⟩ = some (.int .u64 zv) ∧ w'.cell? ⟨B2, 0, none⟩ = some (.int .i64 ze) ∧ w'.cell? ⟨B2, 1, none⟩ = some (.bool zi) ∧ w'.cell? ⟨B2, 2, none⟩ = some (.int .u64 zv)) (first | assumption | exact YK.all (by assumption) | exact YK.all (YK.drewA (by assumption)) | exact YK.all (YK.drewB (by assumption)) | exact YK.all (YK.after (by assumption) (by assumption))) (first
      | (go_at_call 9; refine (HC.out _).mono ?_; rintro o wc ⟨rfl, hbc⟩)
      | (go_at_call 10; refine (HR.out _).mono ?_; rintro o wr ⟨rfl, hbr⟩)
      | (go_at_call 4; refine (HSh.out _ (YK.fin (by assumption))).mono ?_; rintro o wz ⟨rfl, hbz⟩))
    have D : Ow w wz := YK.fin (by assumption)
    go_wp2_with fail
    go_ret
    exact ⟨rfl, D⟩
end Go.Proofs.YtaojogaakhidhaaDoor

/- The law OpsCalls, walked. -/
import Derived.Test.YtbfnkdbibgljhaaDoorOpRPr
import Derived.Deep.RegionHeld3
namespace Go.Proofs.YtbfnkdbibgljhaaDoor
open Go.RowKit
open Sc (OC chkE WfC printS)
theorem RK.all {w : World} {k a b f p r v : Int} {w' : World} (h : RK w ⟨k, a, b, f, p, r, v⟩ w') : RK w ⟨k, a, b, f, p, r, v⟩ w' ∧ w'.cell? ⟨w.heap.size, 0, none⟩ = some (.int .i64 k) ∧ w'.cell? ⟨w.heap.size, 1, none⟩ = some (.int .i64 a) ∧ w'.cell? ⟨w.heap.size, 2, none⟩ = some (.int .i64 b) ∧ w'.cell? ⟨w.heap.size, 3, none⟩ = some (.int .i64 f) ∧ w'.cell? ⟨w.heap.size, 4, none⟩ = some (.int .i64 p) ∧ w'.cell? ⟨w.heap.size, 5, none⟩ = some (.int .i64 r) ∧ w'.cell? ⟨w.heap.size, 6, none⟩ = some (.int .u64 v) := ⟨h, h.box.at rfl, h.box.at rfl, h.box.at rfl, h.box.at rfl, h.box.at rfl, h.box.at rfl, h.box.at rfl⟩
theorem RK.drewA {w : World} {c : OC} {w' : World} {q : Prop} (h : RK w c w' ∧ q) : RK w c w'.drew := h.1.then (Ow.refl _).drew
theorem RK.drewB {w : World} {c : OC} {w' : World} (h : RK w c w') : RK w c w'.drew := h.then (Ow.refl _).drew
theorem RK.after {w : World} {c : OC} {w' w1 : World} {q : Prop} (hb : Ow w' w1) (h : RK w c w' ∧ q) : RK w c w1 := h.1.then hb
theorem RK.fin {w : World} {c : OC} {w' : World} {q : Prop} (h : RK w c w' ∧ q) : Ow w w' := h.1.ow
set_option maxRecDepth 100000 in
set_option maxHeartbeats 16000000 in
theorem calls_walk (c : OC) (w : World) (hc : WfC c) (hg : Gl w) (hd : Db w) :
    Calls Tryd.prog 5 #[.agg (ocells c)] w fun e w' => e = .returned (.bool true) ∧ Ow w w' := by
  have HG := Lib.hid hg
  have HD := Lib.hid hd
  have HW := Lib.hid hc
  have HS := Lib.hid (RK.start w c)
  obtain ⟨u, hu⟩ : ∃ u : ByteArray, u.data.toList = printS c := ⟨⟨(printS c).toArray⟩, rfl⟩
  obtain ⟨m, hm⟩ : ∃ m, chkE c = m := ⟨_, rfl⟩
  have HP := Lib.hid (fun W hG hD => print_any c u m hu hm HW.out W hG hD)
  have HQ := Lib.hid (fun W => rprint_any c u m hu hm HW.out W)
  have HC := Lib.hid (fun W => check_any c m hm W)
  have HR := Lib.hid (fun W => rchk_any c m hm W)
  clear hu hm hc hg hd
  obtain ⟨k, a, b, f, p, r, v⟩ := c
  unfold ocells at HS HP HQ HC HR ⊢
  go_enter Tryd.func5, Tryd.ntmps5
  go_wp2_with fail
  (go_at_call 16; refine (HP.out _ (HG.out.below HS.out.ow) (HD.out.below HS.out.ow)).mono ?_; rintro e w1 ⟨rfl, hb1⟩; have H1 := Lib.hid (HS.out.then hb1); clear hb1; have q0 : w1.cell? ⟨w.heap.size, 0, none⟩ = some (.int .i64 k) := H1.out.box.at rfl; have q1 : w1.cell? ⟨w.heap.size, 1, none⟩ = some (.int .i64 a) := H1.out.box.at rfl; have q2 : w1.cell? ⟨w.heap.size, 2, none⟩ = some (.int .i64 b) := H1.out.box.at rfl; have q3 : w1.cell? ⟨w.heap.size, 3, none⟩ = some (.int .i64 f) := H1.out.box.at rfl; have q4 : w1.cell? ⟨w.heap.size, 4, none⟩ = some (.int .i64 p) := H1.out.box.at rfl; have q5 : w1.cell? ⟨w.heap.size, 5, none⟩ = some (.int .i64 r) := H1.out.box.at rfl; have q6 : w1.cell? ⟨w.heap.size, 6, none⟩ = some (.int .u64 v) := H1.out.box.at rfl; have ql := H1.out.box.lt)
  go_wp2_with fail
  (go_at_call 17; refine (HQ.out _).mono ?_; rintro e w2 ⟨rfl, hb2⟩; have H2 := Lib.hid (H1.out.then hb2); clear hb2 q0 q1 q2 q3 q4 q5 q6 ql)
  have hh := H2.out
  go_wp2_with fail
  go_region_held3 (fun w' => RK w ⟨k, a, b, f, p, r, v⟩ w' ∧ w'.cell? ⟨w.heap.size, 0, none⟩ = some (.int .i64 k) ∧ w'.cell? ⟨w.heap.size, 1, none⟩ = some (.int .i64 a) ∧ w'.cell? ⟨w.heap.size, 2, none⟩ = some (.int .i64 b) ∧ w'.cell? ⟨w.heap.size, 3, none⟩ = some (.int .i64 f) ∧ w'.cell? ⟨w.heap.size, 4, none⟩ = some (.int .i64 p) ∧ w'.cell? ⟨w.heap.size, 5, none⟩ = some (.int .i64 r) ∧ w'.cell? ⟨w.heap.size, 6, none⟩ = some (.int .u64 v)) (first | assumption | exact RK.all (by assumption) | exact RK.all (RK.drewA (by assumption)) | exact RK.all (RK.drewB (by assumption)) | exact RK.all (RK.after (by assumption) (by assumption))) (first
    | (go_at_call 18; refine (HC.out _).mono ?_; rintro e wc ⟨rfl, hbc⟩)
    | (go_at_call 19; refine (HR.out _).mono ?_; rintro e wr ⟨rfl, hbr⟩)
    | (go_at_call 8; refine (shown_any _ (HG.out.below (RK.fin (by assumption))) (HD.out.below (RK.fin (by assumption)))).mono ?_; rintro e wz ⟨rfl, hbz⟩))
  have D : Ow w wz := RK.fin (by assumption)
  go_wp2_with fail
  go_ret
  exact ⟨rfl, D⟩
end Go.Proofs.YtbfnkdbibgljhaaDoor

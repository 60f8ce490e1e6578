/- The law OpsLines, walked. -/
import Derived.Test.YtaojogaakhidhaaGreatDoorOpRPv
import Derived.Test.YtaojogaakhidhaaGreatDoorOpShn
namespace Go.Proofs.YtaojogaakhidhaaGreatDoor
open Go.RowKit
open Sc (OC parE parC)
set_option maxRecDepth 100000 in
set_option maxHeartbeats 8000000 in
theorem lines_walk (s : ByteArray) (w : World) (_hz : s.size ≤ maxLen) (hg : Gl w) (hd : Db w) :
    Calls Tryz.prog 3 #[.string s] w fun e w' => e = .returned (.bool true) ∧ Ow w w' := by
  have HG := Lib.hid hg
  have HD := Lib.hid hd
  clear hg hd
  have HSh := Lib.hid (fun W (h : Ow w W) => shown_any W (HG.out.below h) (HD.out.below h))
  have h4 : s.size ≤ 300 ∨ (300 < s.size ∧ s.size ≤ 8192) ∨ (8192 < s.size ∧ s.size ≤ 8200) ∨ 8200 < s.size := by omega
  rcases h4 with h | ⟨h, h'⟩ | ⟨h, h'⟩ | h
  case inr.inl =>
    have e1 : (300 : Int) < (s.size : Int) := by omega
    have e2 : (s.size : Int) ≤ 8192 := by omega
    clear h h'
    go_enter Tryz.func3, Tryz.ntmps3
    go_wp2_with (go_at_call 6; refine (HSh.out _ (Ow.refl _)).mono ?_; rintro e w1 ⟨rfl, hb1⟩)
    go_ret
    exact ⟨rfl, hb1⟩
  case inr.inr.inr =>
    have e1 : (300 : Int) < (s.size : Int) := by omega
    have e2 : ¬ (s.size : Int) ≤ 8192 := by omega
    have e3 : (8200 : Int) < (s.size : Int) := by omega
    clear h
    go_enter Tryz.func3, Tryz.ntmps3
    go_wp2_with (go_at_call 6; refine (HSh.out _ (Ow.refl _)).mono ?_; rintro e w1 ⟨rfl, hb1⟩)
    go_ret
    exact ⟨rfl, hb1⟩
  case inl =>
    have e1 : ¬ (300 : Int) < (s.size : Int) := by omega
    have e3 : ¬ (8200 : Int) < (s.size : Int) := by omega
    have hs : s.size ≤ 9000 := by omega
    clear h
    obtain ⟨d, hd⟩ : ∃ d, parC s.data.toList = d := ⟨_, rfl⟩
    obtain ⟨m, hm⟩ : ∃ m, parE s.data.toList = m := ⟨_, rfl⟩
    have HP := Lib.hid (fun W hG => parse_any s W hs hG)
    have HR := Lib.hid (fun W => rparse_any s W hs)
    unfold PaPost at HP HR
    rw [hd, hm] at HP HR
    clear hd hm
    obtain ⟨k, a, b, f, p, r, v⟩ := d
    unfold ocells at HP HR
    go_enter Tryz.func3, Tryz.ntmps3
    go_wp2_with fail
    (go_at_call 7; refine (HP.out _ HG.out).mono ?_; rintro e w1 ⟨rfl, hb1⟩)
    have HA : Hid (Ow w (w1.alloc (.cells #[.int .i64 k, .int .i64 a, .int .i64 b, .int .i64 f, .int .i64 p, .int .i64 r, .int .u64 v] 25)) ∧ Bx w1.heap.size #[.int .i64 k, .int .i64 a, .int .i64 b, .int .i64 f, .int .i64 p, .int .i64 r, .int .u64 v] 25 (w1.alloc (.cells #[.int .i64 k, .int .i64 a, .int .i64 b, .int .i64 f, .int .i64 p, .int .i64 r, .int .u64 v] 25))) := ⟨Ow.alloc hb1 _, Bx.new _ _ _⟩
    clear hb1
    go_wp2_with fail
    (go_at_call 8; refine (HR.out _).mono ?_; rintro e w2 ⟨rfl, hb2⟩)
    have HB : Hid (Ow w w2 ∧ Bx w1.heap.size #[.int .i64 k, .int .i64 a, .int .i64 b, .int .i64 f, .int .i64 p, .int .i64 r, .int .u64 v] 25 w2) := ⟨Ow.then HA.out.1 hb2, HA.out.2.then hb2⟩
    have r0 : w2.cell? ⟨w1.heap.size, 0, none⟩ = some (.int .i64 k) := HB.out.2.at rfl
    have r1 : w2.cell? ⟨w1.heap.size, 1, none⟩ = some (.int .i64 a) := HB.out.2.at rfl
    have r2 : w2.cell? ⟨w1.heap.size, 2, none⟩ = some (.int .i64 b) := HB.out.2.at rfl
    have r3 : w2.cell? ⟨w1.heap.size, 3, none⟩ = some (.int .i64 f) := HB.out.2.at rfl
    have r4 : w2.cell? ⟨w1.heap.size, 4, none⟩ = some (.int .i64 p) := HB.out.2.at rfl
    have r5 : w2.cell? ⟨w1.heap.size, 5, none⟩ = some (.int .i64 r) := HB.out.2.at rfl
    have r6 : w2.cell? ⟨w1.heap.size, 6, none⟩ = some (.int .u64 v) := HB.out.2.at rfl
    have l1 := HB.out.2.lt
    clear hb2
    go_wp2_with (go_at_call 6; refine (HSh.out _ (HB.out.1.alloc _)).mono ?_; rintro e w3 ⟨rfl, hb3⟩)
    go_ret
    exact ⟨rfl, Ow.then (HB.out.1.alloc _) hb3⟩
  case inr.inr.inl =>
    have e1 : (300 : Int) < (s.size : Int) := by omega
    have e2 : ¬ (s.size : Int) ≤ 8192 := by omega
    have e3 : ¬ (8200 : Int) < (s.size : Int) := by omega
    have hs : s.size ≤ 9000 := by omega
    clear h h'
    obtain ⟨d, hd⟩ : ∃ d, parC s.data.toList = d := ⟨_, rfl⟩
    obtain ⟨m, hm⟩ : ∃ m, parE s.data.toList = m := ⟨_, rfl⟩
    have HP := Lib.hid (fun W hG => parse_any s W hs hG)
    have HR := Lib.hid (fun W => rparse_any s W hs)
    unfold PaPost at HP HR
    rw [hd, hm] at HP HR
    clear hd hm
    obtain ⟨k, a, b, f, p, r, v⟩ := d
    unfold ocells at HP HR
    go_enter Tryz.func3, Tryz.ntmps3
    go_wp2_with fail
    (go_at_call 7; refine (HP.out _ HG.out).mono ?_; rintro e w1 ⟨rfl, hb1⟩)
    have HA : Hid (Ow w (w1.alloc (.cells #[.int .i64 k, .int .i64 a, .int .i64 b, .int .i64 f, .int .i64 p, .int .i64 r, .int .u64 v] 25)) ∧ Bx w1.heap.size #[.int .i64 k, .int .i64 a, .int .i64 b, .int .i64 f, .int .i64 p, .int .i64 r, .int .u64 v] 25 (w1.alloc (.cells #[.int .i64 k, .int .i64 a, .int .i64 b, .int .i64 f, .int .i64 p, .int .i64 r, .int .u64 v] 25))) := ⟨Ow.alloc hb1 _, Bx.new _ _ _⟩
    clear hb1
    go_wp2_with fail
    (go_at_call 8; refine (HR.out _).mono ?_; rintro e w2 ⟨rfl, hb2⟩)
    have HB : Hid (Ow w w2 ∧ Bx w1.heap.size #[.int .i64 k, .int .i64 a, .int .i64 b, .int .i64 f, .int .i64 p, .int .i64 r, .int .u64 v] 25 w2) := ⟨Ow.then HA.out.1 hb2, HA.out.2.then hb2⟩
    have r0 : w2.cell? ⟨w1.heap.size, 0, none⟩ = some (.int .i64 k) := HB.out.2.at rfl
    have r1 : w2.cell? ⟨w1.heap.size, 1, none⟩ = some (.int .i64 a) := HB.out.2.at rfl
    have r2 : w2.cell? ⟨w1.heap.size, 2, none⟩ = some (.int .i64 b) := HB.out.2.at rfl
    have r3 : w2.cell? ⟨w1.heap.size, 3, none⟩ = some (.int .i64 f) := HB.out.2.at rfl
    have r4 : w2.cell? ⟨w1.heap.size, 4, none⟩ = some (.int .i64 p) := HB.out.2.at rfl
    have r5 : w2.cell? ⟨w1.heap.size, 5, none⟩ = some (.int .i64 r) := HB.out.2.at rfl
    have r6 : w2.cell? ⟨w1.heap.size, 6, none⟩ = some (.int .u64 v) := HB.out.2.at rfl
    have l1 := HB.out.2.lt
    clear hb2
    go_wp2_with (go_at_call 6; refine (HSh.out _ (HB.out.1.alloc _)).mono ?_; rintro e w3 ⟨rfl, hb3⟩)
    go_ret
    exact ⟨rfl, Ow.then (HB.out.1.alloc _) hb3⟩
end Go.Proofs.YtaojogaakhidhaaGreatDoor

/- The law WordsLines, walked. -/
import Derived.Test.YtkbbkolanbgajaaDoorWLLin
namespace Go.Proofs.YtkbbkolanbgajaaDoor
open Go.RowKit

set_option maxRecDepth 100000 in
set_option maxHeartbeats 4000000 in
theorem lines_walk (s t : ByteArray) (b : Bool) (w : World) (hz : s.size ≤ maxLen) (hz2 : t.size ≤ maxLen) (hg : Gl w) :
    Calls Tryd.prog 8 #[.string s, .string t, .bool b] w fun e w' => e = .returned (.bool true) ∧ Ow w w' := by
  unfold maxLen at hz hz2
  have HG := Lib.hid hg
  clear hg
  by_cases h1 : 12000 < s.size
  · have e1 : (12000 : Int) < (s.size : Int) := by omega
    clear h1
    go_enter Tryd.func8, Tryd.ntmps8
    go_wp2_with (go_at_call 9; refine (shown_any _ HG.out).mono ?_; rintro e w1 ⟨rfl, hb1⟩)
    go_ret
    exact ⟨rfl, hb1⟩
  · have e1 : decide ((12000 : Int) < (s.size : Int)) = false := decide_eq_false (by omega)
    by_cases h2 : 100 < t.size
    · have e2 : (100 : Int) < (t.size : Int) := by omega
      clear h1 h2
      go_enter Tryd.func8, Tryd.ntmps8
      go_wp2_with (go_at_call 9; refine (shown_any _ HG.out).mono ?_; rintro e w1 ⟨rfl, hb1⟩)
      go_ret
      exact ⟨rfl, hb1⟩
    · have e2 : decide ((100 : Int) < (t.size : Int)) = false := decide_eq_false (by omega)
      have hs : s.size ≤ 12000 := by omega
      have ht : t.size ≤ 100 := by omega
      clear h1 h2 hz hz2
      have hmk : ∀ W : World, (Instr.makeSlice 38 (.int .i64 5000) (.int .i64 5000)).run Tryd.prog W = .ok (.slice (some ⟨W.heap.size, 0, none⟩) 5000 5000) (W.alloc (.cells (mkB 5000) 5)) := fun W => make_is 5000 5000 rfl W (by decide)
      have hmk2 : ∀ W : World, (Instr.makeSlice 38 (.int .i64 1048556) (.int .i64 1048556)).run Tryd.prog W = .ok (.slice (some ⟨W.heap.size, 0, none⟩) 1048556 1048556) (W.alloc (.cells (mkB 1048556) 5)) := fun W => make_is 1048556 1048556 rfl W (by decide)
      cases b with
      | false =>
        have HB0 : Hid (Bts (w.alloc (.cells (mkB 5000) 5)) w.heap.size w.heap.size 5000) := Bts.new w _ 5000 (Nat.le_refl _) (by decide)
        go_enter Tryd.func8, Tryd.ntmps8
        go_wp2
        clear hmk hmk2
        go_loopw [8] (fun i wr => ∃ k : Nat, k ≤ 5000 ∧ i = .int .i64 k ∧ Bts wr w.heap.size w.heap.size 5000 ∧ Ow w wr) (fun i _ => 5000 - (intOf i).toNat)
        case atStart => exact ⟨0, by omega, rfl, HB0.out, (Ow.refl _).alloc _⟩
        case round =>
          obtain ⟨k, hk, rfl, hbt, hb⟩ := hrel
          have HBt := Lib.hid hbt
          have HO := Lib.hid hb
          clear hbt hb
          by_cases hlt : k < 5000
          · obtain ⟨x, hx⟩ := HBt.out.cell hlt
            have hfx := HBt.out.frozen k
            have HSt : Hid (Bts (wr.setCell ⟨w.heap.size, k, none⟩ (.int .u8 10)) w.heap.size w.heap.size 5000) := HBt.out.store k 10
            have HO2 : Hid (Ow w (wr.setCell ⟨w.heap.size, k, none⟩ (.int .u8 10))) := Below.setCell HO.out (p := ⟨w.heap.size, k, none⟩) (Nat.le_refl _) _
            have el : (k : Int) < 5000 := by omega
            go_wp2
            go_roundw
            case rel => exact ⟨k + 1, by omega, by go_num, HSt.out, HO2.out⟩
            case measure => simp [intOf]; omega
          · have el : decide ((k : Int) < 5000) = false := decide_eq_false (by omega)
            go_wp2_with fail
            (go_at_call 26; refine (lines_true s _ (by omega) (HG.out.below HO.out)).mono ?_; rintro e w1 ⟨rfl, hb1⟩)
            obtain ⟨u, hu, hcv⟩ := HBt.out.conv hb1
            have O1 := Lib.hid (HO.out.then hb1)
            clear hb1
            go_wp2_with fail
            (go_at_call 26; refine (lines_true _ _ (by simp; omega) (HG.out.below O1.out)).mono ?_; rintro e w2 ⟨rfl, hb2⟩)
            have O2 := Lib.hid (O1.out.then hb2)
            clear hb2
            go_wp2_with fail
            (go_at_call 9; refine (shown_any _ (HG.out.below O2.out)).mono ?_; rintro e w3 ⟨rfl, hb3⟩)
            go_wp2_with fail
            go_ret
            exact ⟨rfl, O2.out.then hb3⟩
      | true =>
        have HB0 : Hid (Bts ((w.alloc (.cells (mkB 5000) 5)).alloc (.cells (mkB 1048556) 5)) w.heap.size (w.heap.size + 1) 1048556) := by
          have := Bts.new (w.alloc (.cells (mkB 5000) 5)) w.heap.size 1048556 (by simp) (by decide)
          rwa [World.size_alloc] at this
        go_enter Tryd.func8, Tryd.ntmps8
        go_wp2
        clear hmk hmk2
        go_loopw [8] (fun i wr => ∃ k : Nat, k ≤ 1048556 ∧ i = .int .i64 k ∧ Bts wr w.heap.size (w.heap.size + 1) 1048556 ∧ Ow w wr) (fun i _ => 1048556 - (intOf i).toNat)
        case atStart => exact ⟨0, by omega, rfl, HB0.out, ((Ow.refl _).alloc _).alloc _⟩
        case round =>
          obtain ⟨k, hk, rfl, hbt, hb⟩ := hrel
          have HBt := Lib.hid hbt
          have HO := Lib.hid hb
          clear hbt hb
          by_cases hlt : k < 1048556
          · obtain ⟨x, hx⟩ := HBt.out.cell hlt
            have hfx := HBt.out.frozen k
            have HSt : Hid (Bts (wr.setCell ⟨w.heap.size + 1, k, none⟩ (.int .u8 10)) w.heap.size (w.heap.size + 1) 1048556) := HBt.out.store k 10
            have HO2 : Hid (Ow w (wr.setCell ⟨w.heap.size + 1, k, none⟩ (.int .u8 10))) := Below.setCell HO.out (p := ⟨w.heap.size + 1, k, none⟩) (by simp) _
            have el : (k : Int) < 1048556 := by omega
            by_cases hm : k % 1000 = 0
            · have em : ((k : Int) % 1000 != 0) = false := by rw [bne_eq_false_iff_eq]; omega
              clear hm
              go_wp2
              go_roundw
              case rel => exact ⟨k + 1, by omega, by go_num, HSt.out, HO2.out⟩
              case measure => simp [intOf]; omega
            · have em : ((k : Int) % 1000 != 0) = true := by rw [bne_iff_ne]; omega
              have HSt2 : Hid (Bts ((wr.setCell ⟨w.heap.size + 1, k, none⟩ (.int .u8 10)).setCell ⟨w.heap.size + 1, k, none⟩ (.int .u8 120)) w.heap.size (w.heap.size + 1) 1048556) := HSt.out.store k 120
              have HO3 : Hid (Ow w ((wr.setCell ⟨w.heap.size + 1, k, none⟩ (.int .u8 10)).setCell ⟨w.heap.size + 1, k, none⟩ (.int .u8 120))) := Below.setCell HO2.out (p := ⟨w.heap.size + 1, k, none⟩) (by simp) _
              clear hm
              go_wp2
              go_roundw
              case rel => exact ⟨k + 1, by omega, by go_num, HSt2.out, HO3.out⟩
              case measure => simp [intOf]; omega
          · have el : decide ((k : Int) < 1048556) = false := decide_eq_false (by omega)
            go_wp2_with fail
            (go_at_call 26; refine (lines_true s _ (by omega) (HG.out.below HO.out)).mono ?_; rintro e w1 ⟨rfl, hb1⟩)
            obtain ⟨u, hu, hcv⟩ := HBt.out.conv hb1
            have O1 := Lib.hid (HO.out.then hb1)
            clear hb1
            go_wp2_with fail
            (go_at_call 26; refine (lines_true _ _ (by simp; omega) (HG.out.below O1.out)).mono ?_; rintro e w2 ⟨rfl, hb2⟩)
            have O2 := Lib.hid (O1.out.then hb2)
            clear hb2
            go_wp2_with fail
            (go_at_call 9; refine (shown_any _ (HG.out.below O2.out)).mono ?_; rintro e w3 ⟨rfl, hb3⟩)
            go_wp2_with fail
            go_ret
            exact ⟨rfl, O2.out.then hb3⟩
end Go.Proofs.YtkbbkolanbgajaaDoor

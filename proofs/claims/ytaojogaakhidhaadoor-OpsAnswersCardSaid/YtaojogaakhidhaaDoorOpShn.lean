/- The calls that every statement of chapter 28 shows; the law OpsKnown. -/
import Derived.Test.YtaojogaakhidhaaDoorOpPa
import Derived.Test.YtaojogaakhidhaaDoorQ3
import Derived.Test.YtaojogaakhidhaaDoorOpShP
import Derived.Test.YtaojogaakhidhaaDoorOpArgB
namespace Go.Proofs.YtaojogaakhidhaaDoor
open Go.RowKit
open Sc (OC OA chkE chkA WfA WfC parE parC paE paA ansS)
theorem parse_at (s : ByteArray) (c : OC) (m : Int) (hc : parC s.data.toList = c) (hm : parE s.data.toList = m) (w : World) (hs : s.size ≤ 9000) (hg : Gl w) :
    Calls Tryd.prog 11 #[.string s] w fun e w' => e = .returned (.tuple #[.agg (ocells c), .int .i64 m]) ∧ Ow w w' := by
  subst hc hm
  exact parse_any s w hs hg
theorem pa_at (c : OC) (s : ByteArray) (a : OA) (m : Int) (ha : paA c s.data.toList = a) (hm : paE c s.data.toList = m) (w : World) (hs : s.size ≤ 9000) (hg : Gl w) :
    Calls Tryd.prog 7 #[.agg (ocells c), .string s] w fun e w' => e = .returned (.tuple #[.agg (acells a), .int .i64 m]) ∧ Ow w w' := by
  subst ha hm
  exact pa_any c s w hs hg
theorem sh_a (w : World) (hg : Gl w) : Calls Tryd.prog 11 #[.string ⟨#[97, 108, 108, 111, 99, 32, 48, 32, 50, 32, 49]⟩] w fun e w' => e = .returned (.tuple #[.agg #[.int .i64 1, .int .i64 0, .int .i64 0, .int .i64 0, .int .i64 2, .int .i64 1, .int .u64 0], .int .i64 0]) ∧ Ow w w' :=
  parse_at ⟨#[97, 108, 108, 111, 99, 32, 48, 32, 50, 32, 49]⟩ ⟨1, 0, 0, 0, 2, 1, 0⟩ 0 Sc.shA.2 Sc.shA.1 w (by decide) hg
theorem sh_b (w : World) (hg : Gl w) : Calls Tryd.prog 11 #[.string ⟨#[119, 114, 105, 116, 101, 32, 49, 32, 48, 32, 102, 102]⟩] w fun e w' => e = .returned (.tuple #[.agg #[.int .i64 5, .int .i64 1, .int .i64 0, .int .i64 0, .int .i64 0, .int .i64 0, .int .u64 255], .int .i64 0]) ∧ Ow w w' :=
  parse_at ⟨#[119, 114, 105, 116, 101, 32, 49, 32, 48, 32, 102, 102]⟩ ⟨5, 1, 0, 0, 0, 0, 255⟩ 0 Sc.shB.2 Sc.shB.1 w (by decide) hg
theorem sh_c (w : World) (hg : Gl w) : Calls Tryd.prog 11 #[.string ⟨#[115, 116, 111, 114, 101, 32, 49, 32, 48, 32, 45, 49]⟩] w fun e w' => e = .returned (.tuple #[.agg #[.int .i64 3, .int .i64 1, .int .i64 (-1), .int .i64 0, .int .i64 0, .int .i64 0, .int .u64 0], .int .i64 0]) ∧ Ow w w' :=
  parse_at ⟨#[115, 116, 111, 114, 101, 32, 49, 32, 48, 32, 45, 49]⟩ ⟨3, 1, -1, 0, 0, 0, 0⟩ 0 Sc.shC.2 Sc.shC.1 w (by decide) hg
theorem sh_d (w : World) (hg : Gl w) : Calls Tryd.prog 11 #[.string ⟨#[119, 114, 105, 116, 101, 32, 49, 32, 48, 32, 48, 102]⟩] w fun e w' => e = .returned (.tuple #[.agg #[.int .i64 0, .int .i64 0, .int .i64 0, .int .i64 0, .int .i64 0, .int .i64 0, .int .u64 0], .int .i64 6]) ∧ Ow w w' :=
  parse_at ⟨#[119, 114, 105, 116, 101, 32, 49, 32, 48, 32, 48, 102]⟩ ⟨0, 0, 0, 0, 0, 0, 0⟩ 6 Sc.shD.2 Sc.shD.1 w (by decide) hg
theorem sh_e (w : World) (hg : Gl w) (hd : Db w) : Calls Tryd.prog 5 #[.agg #[.int .i64 10, .int .i64 0, .int .i64 0, .int .i64 0, .int .i64 0, .int .i64 0, .int .u64 0], .agg #[.int .i64 0, .bool false, .int .u64 513]] w fun e w' => e = .returned (.tuple #[.string ⟨#[50, 32, 49]⟩, .int .i64 0]) ∧ Ow w w' :=
  ans_any ⟨10, 0, 0, 0, 0, 0, 0⟩ ⟨0, false, 513⟩ ⟨#[50, 32, 49]⟩ 0 Sc.shE.2.symm Sc.shE.1 ⟨by decide, by decide⟩ w hg hd
theorem sh_f (w : World) (hg : Gl w) : Calls Tryd.prog 7 #[.agg #[.int .i64 4, .int .i64 0, .int .i64 0, .int .i64 0, .int .i64 0, .int .i64 0, .int .u64 0], .string ⟨#[102, 102]⟩] w fun e w' => e = .returned (.tuple #[.agg #[.int .i64 0, .bool false, .int .u64 255], .int .i64 0]) ∧ Ow w w' :=
  pa_at ⟨4, 0, 0, 0, 0, 0, 0⟩ ⟨#[102, 102]⟩ ⟨0, false, 255⟩ 0 Sc.shF.2 Sc.shF.1 w (by decide) hg
theorem sh_g (w : World) (hg : Gl w) : Calls Tryd.prog 7 #[.agg #[.int .i64 1, .int .i64 0, .int .i64 0, .int .i64 0, .int .i64 2, .int .i64 1, .int .u64 0], .string ⟨#[121, 101, 115]⟩] w fun e w' => e = .returned (.tuple #[.agg #[.int .i64 0, .bool false, .int .u64 0], .int .i64 6]) ∧ Ow w w' :=
  pa_at ⟨1, 0, 0, 0, 2, 1, 0⟩ ⟨#[121, 101, 115]⟩ ⟨0, false, 0⟩ 6 Sc.shG.2 Sc.shG.1 w (by decide) hg
theorem kn_a (w : World) (hg : Gl w) : Calls Tryd.prog 11 #[.string ⟨#[114, 101, 97, 100, 32, 49]⟩] w fun e w' => e = .returned (.tuple #[.agg #[.int .i64 0, .int .i64 0, .int .i64 0, .int .i64 0, .int .i64 0, .int .i64 0, .int .u64 0], .int .i64 6]) ∧ Ow w w' :=
  parse_at ⟨#[114, 101, 97, 100, 32, 49]⟩ ⟨0, 0, 0, 0, 0, 0, 0⟩ 6 Sc.knA.2 Sc.knA.1 w (by decide) hg
theorem kn_b (w : World) (hg : Gl w) : Calls Tryd.prog 11 #[.string ⟨#[114, 101, 97, 100, 32, 49, 32, 48, 32, 48]⟩] w fun e w' => e = .returned (.tuple #[.agg #[.int .i64 0, .int .i64 0, .int .i64 0, .int .i64 0, .int .i64 0, .int .i64 0, .int .u64 0], .int .i64 6]) ∧ Ow w w' :=
  parse_at ⟨#[114, 101, 97, 100, 32, 49, 32, 48, 32, 48]⟩ ⟨0, 0, 0, 0, 0, 0, 0⟩ 6 Sc.knB.2 Sc.knB.1 w (by decide) hg
theorem kn_c (w : World) (hg : Gl w) : Calls Tryd.prog 11 #[.string ⟨#[108, 111, 97, 100, 32, 49, 32, 48, 32, 49, 48, 48, 48, 48, 48, 48, 48, 48, 49]⟩] w fun e w' => e = .returned (.tuple #[.agg #[.int .i64 0, .int .i64 0, .int .i64 0, .int .i64 0, .int .i64 0, .int .i64 0, .int .u64 0], .int .i64 7]) ∧ Ow w w' :=
  parse_at ⟨#[108, 111, 97, 100, 32, 49, 32, 48, 32, 49, 48, 48, 48, 48, 48, 48, 48, 48, 49]⟩ ⟨0, 0, 0, 0, 0, 0, 0⟩ 7 Sc.knC.2 Sc.knC.1 w (by decide) hg
theorem kn_d (w : World) (hg : Gl w) : Calls Tryd.prog 11 #[.string ⟨#[119, 114, 105, 116, 101, 32, 49, 32, 48, 32, 49, 49, 49, 49, 49, 49, 49, 49, 49, 49, 49, 49, 49, 49, 49, 49, 49]⟩] w fun e w' => e = .returned (.tuple #[.agg #[.int .i64 0, .int .i64 0, .int .i64 0, .int .i64 0, .int .i64 0, .int .i64 0, .int .u64 0], .int .i64 7]) ∧ Ow w w' :=
  parse_at ⟨#[119, 114, 105, 116, 101, 32, 49, 32, 48, 32, 49, 49, 49, 49, 49, 49, 49, 49, 49, 49, 49, 49, 49, 49, 49, 49, 49]⟩ ⟨0, 0, 0, 0, 0, 0, 0⟩ 7 Sc.knD.2 Sc.knD.1 w (by decide) hg
theorem kn_e (w : World) (hg : Gl w) (hd : Db w) : Calls Tryd.prog 5 #[.agg #[.int .i64 8, .int .i64 0, .int .i64 1, .int .i64 0, .int .i64 0, .int .i64 0, .int .u64 0], .agg #[.int .i64 0, .bool true, .int .u64 0]] w fun e w' => e = .returned (.tuple #[.string ⟨#[121, 101, 115]⟩, .int .i64 0]) ∧ Ow w w' :=
  ans_any ⟨8, 0, 1, 0, 0, 0, 0⟩ ⟨0, true, 0⟩ ⟨#[121, 101, 115]⟩ 0 Sc.knE.2.symm Sc.knE.1 ⟨by decide, by decide⟩ w hg hd
theorem kn_f (w : World) (hg : Gl w) (hd : Db w) : Calls Tryd.prog 5 #[.agg #[.int .i64 1, .int .i64 0, .int .i64 0, .int .i64 0, .int .i64 1, .int .i64 1, .int .u64 0], .agg #[.int .i64 5, .bool false, .int .u64 0]] w fun e w' => e = .returned (.tuple #[.string ⟨#[101, 114, 114, 111, 114, 32, 53]⟩, .int .i64 0]) ∧ Ow w w' :=
  ans_any ⟨1, 0, 0, 0, 1, 1, 0⟩ ⟨5, false, 0⟩ ⟨#[101, 114, 114, 111, 114, 32, 53]⟩ 0 Sc.knF.2.symm Sc.knF.1 ⟨by decide, by decide⟩ w hg hd
set_option maxRecDepth 100000 in
set_option maxHeartbeats 8000000 in
theorem shown_any (w : World) (hg : Gl w) (hd : Db w) : Calls Tryd.prog 4 #[] w fun e w' => e = .returned (.bool true) ∧ Ow w w' := by
  have HG := Lib.hid hg
  have HD := Lib.hid hd
  clear hg hd
  go_enter Tryd.func4, Tryd.ntmps4
  go_wp2_with fail
  (go_at_call 11; refine (sh_a _ HG.out).mono ?_; rintro e w1 ⟨rfl, hb1⟩)
  have H1 : Hid (Ow w (w1.alloc (.cells #[.int .i64 1, .int .i64 0, .int .i64 0, .int .i64 0, .int .i64 2, .int .i64 1, .int .u64 0] 24)) ∧ Bx w1.heap.size #[.int .i64 1, .int .i64 0, .int .i64 0, .int .i64 0, .int .i64 2, .int .i64 1, .int .u64 0] 24 (w1.alloc (.cells #[.int .i64 1, .int .i64 0, .int .i64 0, .int .i64 0, .int .i64 2, .int .i64 1, .int .u64 0] 24))) := ⟨Ow.alloc hb1 _, Bx.new _ _ _⟩
  clear hb1
  go_wp2_with fail
  (go_at_call 11; refine (sh_b _ (HG.out.below H1.out.1)).mono ?_; rintro e w2 ⟨rfl, hb2⟩)
  have H2 : Hid (Ow w (w2.alloc (.cells #[.int .i64 5, .int .i64 1, .int .i64 0, .int .i64 0, .int .i64 0, .int .i64 0, .int .u64 255] 24)) ∧ Bx w1.heap.size #[.int .i64 1, .int .i64 0, .int .i64 0, .int .i64 0, .int .i64 2, .int .i64 1, .int .u64 0] 24 (w2.alloc (.cells #[.int .i64 5, .int .i64 1, .int .i64 0, .int .i64 0, .int .i64 0, .int .i64 0, .int .u64 255] 24)) ∧ Bx w2.heap.size #[.int .i64 5, .int .i64 1, .int .i64 0, .int .i64 0, .int .i64 0, .int .i64 0, .int .u64 255] 24 (w2.alloc (.cells #[.int .i64 5, .int .i64 1, .int .i64 0, .int .i64 0, .int .i64 0, .int .i64 0, .int .u64 255] 24))) := ⟨(Ow.then H1.out.1 hb2).alloc _, (H1.out.2.then hb2).alloc _, Bx.new _ _ _⟩
  clear hb2 H1
  go_wp2_with fail
  (go_at_call 11; refine (sh_c _ (HG.out.below H2.out.1)).mono ?_; rintro e w3 ⟨rfl, hb3⟩)
  have H3 : Hid (Ow w (w3.alloc (.cells #[.int .i64 3, .int .i64 1, .int .i64 (-1), .int .i64 0, .int .i64 0, .int .i64 0, .int .u64 0] 24)) ∧ Bx w1.heap.size #[.int .i64 1, .int .i64 0, .int .i64 0, .int .i64 0, .int .i64 2, .int .i64 1, .int .u64 0] 24 (w3.alloc (.cells #[.int .i64 3, .int .i64 1, .int .i64 (-1), .int .i64 0, .int .i64 0, .int .i64 0, .int .u64 0] 24)) ∧ Bx w2.heap.size #[.int .i64 5, .int .i64 1, .int .i64 0, .int .i64 0, .int .i64 0, .int .i64 0, .int .u64 255] 24 (w3.alloc (.cells #[.int .i64 3, .int .i64 1, .int .i64 (-1), .int .i64 0, .int .i64 0, .int .i64 0, .int .u64 0] 24)) ∧ Bx w3.heap.size #[.int .i64 3, .int .i64 1, .int .i64 (-1), .int .i64 0, .int .i64 0, .int .i64 0, .int .u64 0] 24 (w3.alloc (.cells #[.int .i64 3, .int .i64 1, .int .i64 (-1), .int .i64 0, .int .i64 0, .int .i64 0, .int .u64 0] 24))) := ⟨(Ow.then H2.out.1 hb3).alloc _, (H2.out.2.1.then hb3).alloc _, (H2.out.2.2.then hb3).alloc _, Bx.new _ _ _⟩
  clear hb3 H2
  go_wp2_with fail
  (go_at_call 11; refine (sh_d _ (HG.out.below H3.out.1)).mono ?_; rintro e w4 ⟨rfl, hb4⟩)
  have H4 : Hid (Ow w (w4.alloc (.cells #[.int .i64 0, .int .i64 0, .int .i64 0, .int .i64 0, .int .i64 0, .int .i64 0, .int .u64 0] 24)) ∧ Bx w1.heap.size #[.int .i64 1, .int .i64 0, .int .i64 0, .int .i64 0, .int .i64 2, .int .i64 1, .int .u64 0] 24 (w4.alloc (.cells #[.int .i64 0, .int .i64 0, .int .i64 0, .int .i64 0, .int .i64 0, .int .i64 0, .int .u64 0] 24)) ∧ Bx w2.heap.size #[.int .i64 5, .int .i64 1, .int .i64 0, .int .i64 0, .int .i64 0, .int .i64 0, .int .u64 255] 24 (w4.alloc (.cells #[.int .i64 0, .int .i64 0, .int .i64 0, .int .i64 0, .int .i64 0, .int .i64 0, .int .u64 0] 24)) ∧ Bx w3.heap.size #[.int .i64 3, .int .i64 1, .int .i64 (-1), .int .i64 0, .int .i64 0, .int .i64 0, .int .u64 0] 24 (w4.alloc (.cells #[.int .i64 0, .int .i64 0, .int .i64 0, .int .i64 0, .int .i64 0, .int .i64 0, .int .u64 0] 24))) := ⟨(Ow.then H3.out.1 hb4).alloc _, (H3.out.2.1.then hb4).alloc _, (H3.out.2.2.1.then hb4).alloc _, (H3.out.2.2.2.then hb4).alloc _⟩
  clear hb4 H3
  go_wp2_with fail
  (go_at_call 5; refine (sh_e _ (HG.out.below H4.out.1) (HD.out.below H4.out.1)).mono ?_; rintro e w5 ⟨rfl, hb5⟩)
  have H5 : Hid (Ow w w5 ∧ Bx w1.heap.size #[.int .i64 1, .int .i64 0, .int .i64 0, .int .i64 0, .int .i64 2, .int .i64 1, .int .u64 0] 24 w5 ∧ Bx w2.heap.size #[.int .i64 5, .int .i64 1, .int .i64 0, .int .i64 0, .int .i64 0, .int .i64 0, .int .u64 255] 24 w5 ∧ Bx w3.heap.size #[.int .i64 3, .int .i64 1, .int .i64 (-1), .int .i64 0, .int .i64 0, .int .i64 0, .int .u64 0] 24 w5) := ⟨Ow.then H4.out.1 hb5, H4.out.2.1.then hb5, H4.out.2.2.1.then hb5, H4.out.2.2.2.then hb5⟩
  clear hb5 H4
  go_wp2_with fail
  (go_at_call 7; refine (sh_f _ (HG.out.below H5.out.1)).mono ?_; rintro e w6 ⟨rfl, hb6⟩)
  have H6 : Hid (Ow w (w6.alloc (.cells #[.int .i64 0, .bool false, .int .u64 255] 27)) ∧ Bx w1.heap.size #[.int .i64 1, .int .i64 0, .int .i64 0, .int .i64 0, .int .i64 2, .int .i64 1, .int .u64 0] 24 (w6.alloc (.cells #[.int .i64 0, .bool false, .int .u64 255] 27)) ∧ Bx w2.heap.size #[.int .i64 5, .int .i64 1, .int .i64 0, .int .i64 0, .int .i64 0, .int .i64 0, .int .u64 255] 24 (w6.alloc (.cells #[.int .i64 0, .bool false, .int .u64 255] 27)) ∧ Bx w3.heap.size #[.int .i64 3, .int .i64 1, .int .i64 (-1), .int .i64 0, .int .i64 0, .int .i64 0, .int .u64 0] 24 (w6.alloc (.cells #[.int .i64 0, .bool false, .int .u64 255] 27)) ∧ Bx w6.heap.size #[.int .i64 0, .bool false, .int .u64 255] 27 (w6.alloc (.cells #[.int .i64 0, .bool false, .int .u64 255] 27))) := ⟨(Ow.then H5.out.1 hb6).alloc _, (H5.out.2.1.then hb6).alloc _, (H5.out.2.2.1.then hb6).alloc _, (H5.out.2.2.2.then hb6).alloc _, Bx.new _ _ _⟩
  clear hb6 H5
  go_wp2_with (refine wpList_load_row rfl 24 _ rfl w1.heap.size rfl 24 _ (0, 0) _ H6.out.2.1 Tryd.underlying24 rfl (by kernel_rfl) ?_)
  (go_at_call 7; refine (sh_g _ (HG.out.below H6.out.1)).mono ?_; rintro e w7 ⟨rfl, hb7⟩)
  have H7 : Hid (Ow w w7) := Ow.then H6.out.1 hb7
  have AX := H6.out.2.1.then hb7
  have BX := H6.out.2.2.1.then hb7
  have CX := H6.out.2.2.2.1.then hb7
  have XX := H6.out.2.2.2.2.then hb7
  have la := AX.lt
  have lb := BX.lt
  have lc := CX.lt
  have lx := XX.lt
  have a0 : w7.cell? ⟨w1.heap.size, 0, none⟩ = some (.int .i64 1) := AX.at rfl
  have a1 : w7.cell? ⟨w1.heap.size, 1, none⟩ = some (.int .i64 0) := AX.at rfl
  have a2 : w7.cell? ⟨w1.heap.size, 2, none⟩ = some (.int .i64 0) := AX.at rfl
  have a3 : w7.cell? ⟨w1.heap.size, 3, none⟩ = some (.int .i64 0) := AX.at rfl
  have a4 : w7.cell? ⟨w1.heap.size, 4, none⟩ = some (.int .i64 2) := AX.at rfl
  have a5 : w7.cell? ⟨w1.heap.size, 5, none⟩ = some (.int .i64 1) := AX.at rfl
  have a6 : w7.cell? ⟨w1.heap.size, 6, none⟩ = some (.int .u64 0) := AX.at rfl
  have b0 : w7.cell? ⟨w2.heap.size, 0, none⟩ = some (.int .i64 5) := BX.at rfl
  have b1 : w7.cell? ⟨w2.heap.size, 1, none⟩ = some (.int .i64 1) := BX.at rfl
  have b2 : w7.cell? ⟨w2.heap.size, 2, none⟩ = some (.int .i64 0) := BX.at rfl
  have b3 : w7.cell? ⟨w2.heap.size, 3, none⟩ = some (.int .i64 0) := BX.at rfl
  have b4 : w7.cell? ⟨w2.heap.size, 4, none⟩ = some (.int .i64 0) := BX.at rfl
  have b5 : w7.cell? ⟨w2.heap.size, 5, none⟩ = some (.int .i64 0) := BX.at rfl
  have b6 : w7.cell? ⟨w2.heap.size, 6, none⟩ = some (.int .u64 255) := BX.at rfl
  have c0 : w7.cell? ⟨w3.heap.size, 0, none⟩ = some (.int .i64 3) := CX.at rfl
  have c1 : w7.cell? ⟨w3.heap.size, 1, none⟩ = some (.int .i64 1) := CX.at rfl
  have c2 : w7.cell? ⟨w3.heap.size, 2, none⟩ = some (.int .i64 (-1)) := CX.at rfl
  have c3 : w7.cell? ⟨w3.heap.size, 3, none⟩ = some (.int .i64 0) := CX.at rfl
  have c4 : w7.cell? ⟨w3.heap.size, 4, none⟩ = some (.int .i64 0) := CX.at rfl
  have c5 : w7.cell? ⟨w3.heap.size, 5, none⟩ = some (.int .i64 0) := CX.at rfl
  have c6 : w7.cell? ⟨w3.heap.size, 6, none⟩ = some (.int .u64 0) := CX.at rfl
  have x0 : w7.cell? ⟨w6.heap.size, 0, none⟩ = some (.int .i64 0) := XX.at rfl
  have x1 : w7.cell? ⟨w6.heap.size, 1, none⟩ = some (.bool false) := XX.at rfl
  have x2 : w7.cell? ⟨w6.heap.size, 2, none⟩ = some (.int .u64 255) := XX.at rfl
  clear AX BX CX XX hb7 H6
  go_wp2_with fail
  go_ret
  exact ⟨rfl, H7.out.alloc _⟩
end Go.Proofs.YtaojogaakhidhaaDoor

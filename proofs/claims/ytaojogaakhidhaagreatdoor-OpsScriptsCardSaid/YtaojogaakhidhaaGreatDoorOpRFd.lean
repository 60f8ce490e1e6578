/- The reference of chapter 28: set, field. -/
import Derived.Test.YtaojogaakhidhaaGreatDoorOpRUn
import Derived.Test.YtaojogaakhidhaaGreatDoorQ6
import Derived.Test.YtaojogaakhidhaaGreatDoorWRInt
import Derived.Test.YtaojogaakhidhaaGreatDoorOpRead
import Derived.Laws.ResultCell
namespace Go.Proofs.YtaojogaakhidhaaGreatDoor
open Go.RowKit
open Sc (OC num setN fldE fldN unhexE unhexN)
open Wd (intE intV)
set_option maxRecDepth 100000 in
theorem rset_1 (k a b f p r v x : Int) (w : World) :
    Calls Tryz.prog 43 #[.agg #[.int .i64 k, .int .i64 a, .int .i64 b, .int .i64 f, .int .i64 p, .int .i64 r, .int .u64 v], .int .u8 97, .int .i64 x] w fun e w' => e = .returned (.agg #[.int .i64 k, .int .i64 x, .int .i64 b, .int .i64 f, .int .i64 p, .int .i64 r, .int .u64 v]) ∧ Ow w w' := by
  go_enter Tryz.func43, Tryz.ntmps43
  go_wp2
  refine bodyPost_ret (v := .agg #[.int .i64 k, .int .i64 x, .int .i64 b, .int .i64 f, .int .i64 p, .int .i64 r, .int .u64 v]) (by simp [results, Tryz.results43, go_sem]) rfl ⟨rfl, ?_⟩
  exact ((Ow.refl _).alloc _).alloc _
set_option maxRecDepth 100000 in
theorem rset_2 (k a b f p r v x : Int) (w : World) :
    Calls Tryz.prog 43 #[.agg #[.int .i64 k, .int .i64 a, .int .i64 b, .int .i64 f, .int .i64 p, .int .i64 r, .int .u64 v], .int .u8 98, .int .i64 x] w fun e w' => e = .returned (.agg #[.int .i64 k, .int .i64 a, .int .i64 x, .int .i64 f, .int .i64 p, .int .i64 r, .int .u64 v]) ∧ Ow w w' := by
  go_enter Tryz.func43, Tryz.ntmps43
  go_wp2
  refine bodyPost_ret (v := .agg #[.int .i64 k, .int .i64 a, .int .i64 x, .int .i64 f, .int .i64 p, .int .i64 r, .int .u64 v]) (by simp [results, Tryz.results43, go_sem]) rfl ⟨rfl, ?_⟩
  exact ((Ow.refl _).alloc _).alloc _
set_option maxRecDepth 100000 in
theorem rset_3 (k a b f p r v x : Int) (w : World) :
    Calls Tryz.prog 43 #[.agg #[.int .i64 k, .int .i64 a, .int .i64 b, .int .i64 f, .int .i64 p, .int .i64 r, .int .u64 v], .int .u8 102, .int .i64 x] w fun e w' => e = .returned (.agg #[.int .i64 k, .int .i64 a, .int .i64 b, .int .i64 x, .int .i64 p, .int .i64 r, .int .u64 v]) ∧ Ow w w' := by
  go_enter Tryz.func43, Tryz.ntmps43
  go_wp2
  refine bodyPost_ret (v := .agg #[.int .i64 k, .int .i64 a, .int .i64 b, .int .i64 x, .int .i64 p, .int .i64 r, .int .u64 v]) (by simp [results, Tryz.results43, go_sem]) rfl ⟨rfl, ?_⟩
  exact ((Ow.refl _).alloc _).alloc _
set_option maxRecDepth 100000 in
theorem rset_4 (k a b f p r v x : Int) (w : World) :
    Calls Tryz.prog 43 #[.agg #[.int .i64 k, .int .i64 a, .int .i64 b, .int .i64 f, .int .i64 p, .int .i64 r, .int .u64 v], .int .u8 112, .int .i64 x] w fun e w' => e = .returned (.agg #[.int .i64 k, .int .i64 a, .int .i64 b, .int .i64 f, .int .i64 x, .int .i64 r, .int .u64 v]) ∧ Ow w w' := by
  go_enter Tryz.func43, Tryz.ntmps43
  go_wp2
  refine bodyPost_ret (v := .agg #[.int .i64 k, .int .i64 a, .int .i64 b, .int .i64 f, .int .i64 x, .int .i64 r, .int .u64 v]) (by simp [results, Tryz.results43, go_sem]) rfl ⟨rfl, ?_⟩
  exact ((Ow.refl _).alloc _).alloc _
set_option maxRecDepth 100000 in
theorem rset_5 (k a b f p r v x : Int) (w : World) :
    Calls Tryz.prog 43 #[.agg #[.int .i64 k, .int .i64 a, .int .i64 b, .int .i64 f, .int .i64 p, .int .i64 r, .int .u64 v], .int .u8 114, .int .i64 x] w fun e w' => e = .returned (.agg #[.int .i64 k, .int .i64 a, .int .i64 b, .int .i64 f, .int .i64 p, .int .i64 x, .int .u64 v]) ∧ Ow w w' := by
  go_enter Tryz.func43, Tryz.ntmps43
  go_wp2
  refine bodyPost_ret (v := .agg #[.int .i64 k, .int .i64 a, .int .i64 b, .int .i64 f, .int .i64 p, .int .i64 x, .int .u64 v]) (by simp [results, Tryz.results43, go_sem]) rfl ⟨rfl, ?_⟩
  exact ((Ow.refl _).alloc _).alloc _
theorem rset_any (c : OC) (i : Nat) (x : Int) (h1 : 1 ≤ i) (h5 : i ≤ 5) (w : World) :
    Calls Tryz.prog 43 #[.agg (ocells c), .int .u8 ((ltr i).toNat : Int), .int .i64 x] w fun e w' => e = .returned (.agg (ocells (setN c i x))) ∧ Ow w w' := by
  obtain rfl | rfl | rfl | rfl | rfl : i = 1 ∨ i = 2 ∨ i = 3 ∨ i = 4 ∨ i = 5 := by omega
  · exact rset_1 _ _ _ _ _ _ _ x w
  · exact rset_2 _ _ _ _ _ _ _ x w
  · exact rset_3 _ _ _ _ _ _ _ x w
  · exact rset_4 _ _ _ _ _ _ _ x w
  · exact rset_5 _ _ _ _ _ _ _ x w
theorem rf_ret {P : Ending → World → Prop} {W : World} {u : Array Value} {R : Nat} {c : OC} {m : Int} (hR : Bx R (ocells c) 25 W)
    (h2 : u[6]? = some (.pointer (some ⟨R, 0, none⟩))) (h3 : u[7]? = some (.int .i64 m)) (hq : P (.returned (.tuple #[.agg (ocells c), .int .i64 m])) W) :
    bodyPost Tryz.prog Tryz.f21 P Exit.ret { tmps := u, defers := [] } W := by
  refine bodyPost_ret (v := .tuple #[.agg (ocells c), .int .i64 m]) ?_ rfl hq
  have hp : u.getD 6 undef = .pointer (some ⟨R, 0, none⟩) := by simp [h2]
  have hm : u.getD 7 undef = .int .i64 m := by simp [h3]
  rw [results_cell_tmp Tryz.results21, hp, hm]
  have hl := run_loadVar_row (P := Tryz.prog) W R 25 25 (ocells c) (0, 0) _ hR Tryz.underlying25 rfl (by kernel_rfl)
  simp only [asAddr, Sem.run_pure, Result.andThen_ok, hl]
/-- The boxes of field. -/
structure RF (w : World) (c : OC) (W : World) : Prop where
  ow : Ow w W
  box : Bx w.heap.size (ocells c) 25 W
  res : Bx (w.heap.size + 1 + 1) (ocells Sc.zeroC) 25 W
theorem RF.start (w : World) (c : OC) (o : Obj) : RF w c (((w.alloc (.cells (ocells c) 25)).alloc o).alloc (.cells (ocells Sc.zeroC) 25)) :=
  ⟨(((Ow.refl _).alloc _).alloc _).alloc _, ((Bx.new w _ _).alloc _).alloc _, by simpa using (Bx.new ((w.alloc (.cells (ocells c) 25)).alloc o) (ocells Sc.zeroC) 25)⟩
theorem RF.then {w : World} {c : OC} {W W' : World} (h : RF w c W) (hb : Ow W W') : RF w c W' := ⟨Ow.then h.ow hb, h.box.then hb, h.res.then hb⟩
def RfP (w : World) (c : OC) (m : Int) (e : Ending) (w' : World) : Prop := e = .returned (.tuple #[.agg (ocells c), .int .i64 m]) ∧ Ow w w'
set_option maxRecDepth 100000 in
set_option maxHeartbeats 4000000 in
theorem rf_quoted (c : OC) (l : Nat) (s : ByteArray) (w : World) :
    Calls Tryz.prog 21 #[.agg (ocells c), .int .u8 (l : Int), .agg #[.string s, .bool true]] w (RfP w c 6) := by
  have HS := Lib.hid (RF.start w c (.cells #[.string s, .bool true] 53))
  obtain ⟨k, a, b, f, p, r, v⟩ := c
  unfold ocells at HS ⊢
  go_enter Tryz.func21, Tryz.ntmps21
  go_wp2_with (refine wpList_store_rowOf rfl 25 (.tmp 6) (.tmp 14) rfl (w.heap.size + 1 + 1) (by kernel_rfl) (by kernel_rfl) 25 _ HS.out.res (by kernel_rfl) (by kernel_rfl) (by kernel_rfl) ?_)
  refine rf_ret (c := ⟨k, a, b, f, p, r, v⟩) (setRow_heap _ _ _ _ _ _ HS.out.res) rfl rfl ?_
  exact ⟨rfl, HS.out.ow.row (by omega) _⟩
set_option maxRecDepth 100000 in
set_option maxHeartbeats 4000000 in
theorem rf_val (c : OC) (s : ByteArray) (n m : Int) (hn : unhexN s.data.toList = n) (hm : unhexE s.data.toList = m) (w : World) (hs : s.size ≤ 9000) :
    Calls Tryz.prog 21 #[.agg (ocells c), .int .u8 118, .agg #[.string s, .bool false]] w (RfP w (setN c 6 n) m) := by
  have HS := Lib.hid (RF.start w c (.cells #[.string s, .bool false] 53))
  have HU := Lib.hid (fun W => runhex_is s n m hn hm W hs)
  clear hn hm
  obtain ⟨k, a, b, f, p, r, v⟩ := c
  unfold ocells at HS ⊢
  go_enter Tryz.func21, Tryz.ntmps21
  go_wp2_with fail
  (go_at_call 41; refine (HU.out _).mono ?_; rintro e w1 ⟨rfl, hb1⟩; have H1 := Lib.hid (HS.out.then hb1); have z6 := H1.out.box.z 6; have r6 : w1.cell? ⟨w.heap.size, 6, none⟩ = some (.int .u64 v) := H1.out.box.at rfl; clear hb1)
  have H2 : Hid (Bx w.heap.size (ocells ⟨k, a, b, f, p, r, n⟩) 25 (w1.setCell ⟨w.heap.size, 6, none⟩ (.int .u64 n)) ∧ Bx (w.heap.size + 1 + 1) (ocells Sc.zeroC) 25 (w1.setCell ⟨w.heap.size, 6, none⟩ (.int .u64 n)) ∧ Ow w (w1.setCell ⟨w.heap.size, 6, none⟩ (.int .u64 n))) := ⟨H1.out.box.set 6 _, H1.out.res.other (by omega) _ _, H1.out.ow.set (Nat.le_refl _) _ _⟩
  go_wp2_with (first
    | (refine wpList_load_row rfl 25 _ rfl w.heap.size rfl 25 _ (0, 0) _ H2.out.1 Tryz.underlying25 rfl (by kernel_rfl) ?_)
    | (refine wpList_store_rowOf rfl 25 (.tmp 6) (.tmp 25) rfl (w.heap.size + 1 + 1) (by kernel_rfl) (by kernel_rfl) 25 _ H2.out.2.1 (by kernel_rfl) (by kernel_rfl) (by kernel_rfl) ?_))
  refine rf_ret (c := ⟨k, a, b, f, p, r, n⟩) (setRow_heap _ _ _ _ _ _ H2.out.2.1) rfl rfl ?_
  exact ⟨rfl, H2.out.2.2.row (by omega) _⟩
set_option maxRecDepth 100000 in
set_option maxHeartbeats 4000000 in
theorem rf_num (c : OC) (i l : Nat) (h1 : 1 ≤ i) (h5 : i ≤ 5) (hl : (ltr i).toNat = l) (s : ByteArray) (n m : Int) (hn : intV s.data.toList (-1000000000) 1000000000 = n) (hm : intE s.data.toList (-1000000000) 1000000000 = m) (w : World) (hs : s.size ≤ 9000) :
    Calls Tryz.prog 21 #[.agg (ocells c), .int .u8 (l : Int), .agg #[.string s, .bool false]] w (RfP w (setN c i n) m) := by
  have HS := Lib.hid (RF.start w c (.cells #[.string s, .bool false] 53))
  have HU := Lib.hid (fun W => rint_any s (-1000000000) 1000000000 W hs ⟨by decide, by decide⟩)
  have HNM := Lib.hid (And.intro hn hm)
  have n118 : ((l : Int) == 118) = false := by
    rw [beq_eq_false_iff_ne]
    intro e
    have e2 : l = 118 := by omega
    rw [e2] at hl
    obtain rfl | rfl | rfl | rfl | rfl : i = 1 ∨ i = 2 ∨ i = 3 ∨ i = 4 ∨ i = 5 := by omega
    all_goals exact absurd hl (by decide)
  have HT := Lib.hid (fun W => by have := rset_any c i n h1 h5 W; rw [hl] at this; exact this)
  obtain ⟨d, hd⟩ : ∃ d, setN c i n = d := ⟨_, rfl⟩
  rw [hd] at HT ⊢
  clear hn hm hd hl
  obtain ⟨k, a, b, f, p, r, v⟩ := c
  unfold ocells at HS
  go_enter Tryz.func21, Tryz.ntmps21
  go_wp2_with fail
  (go_at_call 42; refine (HU.out _).mono ?_; rintro e w1 ⟨he, hb1⟩; rw [HNM.out.1, HNM.out.2] at he; subst he; have H1 := Lib.hid (HS.out.then hb1); clear hb1)
  go_wp2_with (first
    | (refine wpList_load_row rfl 25 _ rfl w.heap.size rfl 25 _ (0, 0) _ H1.out.box Tryz.underlying25 rfl (by kernel_rfl) ?_)
    | (go_at_call 43; refine (HT.out _).mono ?_; rintro e w2 ⟨rfl, hb2⟩; have H2 := Lib.hid (H1.out.then hb2); clear hb2)
    | (refine wpList_store_rowOf rfl 25 (.tmp 6) (.tmp 36) rfl (w.heap.size + 1 + 1) (by kernel_rfl) (by kernel_rfl) 25 _ H2.out.res (by kernel_rfl) (by kernel_rfl) (by kernel_rfl) ?_))
  refine rf_ret (c := d) (setRow_heap _ _ _ _ _ _ H2.out.res) rfl rfl ?_
  exact ⟨rfl, H2.out.ow.row (by omega) _⟩
/-- What field returns. -/
theorem rfield_any (c : OC) (j l : Nat) (h1 : 1 ≤ j) (h6 : j ≤ 6) (hl : (ltr j).toNat = l) (s : List UInt8) (q : Bool) (w : World) (hs : s.length ≤ 9000) (hq : q = true → fldE j (s, q) = 6) :
    Calls Tryz.prog 21 #[.agg (ocells c), .int .u8 (l : Int), .agg #[.string ⟨s.toArray⟩, .bool q]] w (RfP w (if q = true then c else setN c j (fldN j (s, q))) (fldE j (s, q))) := by
  cases q with
  | true => rw [if_pos rfl, hq rfl]; exact rf_quoted c l _ w
  | false =>
    rw [if_neg (by decide)]
    by_cases h : j = 6
    · subst h
      obtain rfl : l = 118 := by rw [← hl]; rfl
      exact rf_val c ⟨s.toArray⟩ _ _ (by simp [fldN]) (by simp [fldE]) w (by rw [← ba_len]; exact hs)
    · exact rf_num c j l h1 (by omega) hl ⟨s.toArray⟩ _ _ (by simp [fldN, h]) (by simp [fldE, h]) w (by rw [← ba_len]; exact hs)
end Go.Proofs.YtaojogaakhidhaaGreatDoor

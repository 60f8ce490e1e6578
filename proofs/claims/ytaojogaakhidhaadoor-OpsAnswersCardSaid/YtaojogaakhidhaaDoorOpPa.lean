/- Package ops: ParseAnswer. -/
import Derived.Test.YtaojogaakhidhaaDoorOpPair
namespace Go.Proofs.YtaojogaakhidhaaDoor
open Go.RowKit
open Sc (OC OA chkE WfA ansT hexL pairV parA paE paA errT yesT noT okT unhexE unhexN)
open Wd (intE intV)
theorem str_ne {s : ByteArray} {l : List UInt8} (h : s.data.toList ≠ l) : (s.toList == l) = false := by
  rw [ba_toList]; exact beq_eq_false_iff_ne.2 h
def zeroA : OA := ⟨0, false, 0⟩
/-- The result, read out of its block. -/
theorem oa_ret {P : Ending → World → Prop} {W : World} {u : Array Value} {R : Nat} {c : OA} {m : Int} (hR : Bx R (acells c) 27 W)
    (h2 : u[4]? = some (.pointer (some ⟨R, 0, none⟩))) (h3 : u[5]? = some (.int .i64 m)) (hq : P (.returned (.tuple #[.agg (acells c), .int .i64 m])) W) :
    bodyPost Tryd.prog Tryd.f7 P Exit.ret { tmps := u, defers := [] } W := by
  refine bodyPost_ret (v := .tuple #[.agg (acells c), .int .i64 m]) ?_ rfl hq
  have hp : u.getD 4 undef = .pointer (some ⟨R, 0, none⟩) := by simp [h2]
  have hm : u.getD 5 undef = .int .i64 m := by simp [h3]
  rw [results_cell_tmp Tryd.results7, hp, hm]
  have hl := run_loadVar_row (P := Tryd.prog) W R 27 27 (acells c) (0, 0) _ hR Tryd.underlying27 rfl (by kernel_rfl)
  simp only [asAddr, Sem.run_pure, Result.andThen_ok, hl]
theorem pre_has (l p : List UInt8) : Lib.hasPrefix l p = p.isPrefixOf l := rfl
theorem paE_no {c : OC} {l : List UInt8} (hc : chkE c = 0) (h : parA c l = none) : paE c l = 6 ∧ paA c l = zeroA := by
  have h1 : paE c l = 6 := by unfold paE; rw [if_neg (fun e => e hc), h]; rfl
  exact ⟨h1, by unfold paA; rw [h1]; rfl⟩
theorem paE_ok {c : OC} {l : List UInt8} {a : OA} (hc : chkE c = 0) (h : parA c l = some a) : paE c l = 0 ∧ paA c l = a := by
  have h1 : paE c l = 0 := by unfold paE; rw [if_neg (fun e => e hc), h]; rfl
  exact ⟨h1, by unfold paA; rw [h1, h]; rfl⟩
theorem paE_bad {c : OC} {l : List UInt8} (hc : chkE c ≠ 0) : paE c l = chkE c ∧ paA c l = zeroA := by
  have h1 : paE c l = chkE c := by unfold paE; rw [if_pos hc]
  exact ⟨h1, by unfold paA; rw [h1, if_neg hc]; rfl⟩
/-- What stands behind the call of Check: the boxes. -/
structure PB (w : World) (c : OC) (W : World) : Prop where
  ow : Ow w W
  box : Bx w.heap.size (ocells c) 24 W
  res : Bx (w.heap.size + 1) (acells zeroA) 27 W
theorem PB.start (w : World) (c : OC) (W : World) (h : Ow ((w.alloc (.cells (ocells c) 24)).alloc (.cells (acells zeroA) 27)) W) : PB w c W :=
  ⟨Ow.then (((Ow.refl _).alloc _).alloc _) h, ((Bx.new w _ _).alloc _).then h, by simpa using (Bx.new (w.alloc (.cells (ocells c) 24)) (acells zeroA) 27).then h⟩
theorem PB.then {w : World} {c : OC} {W W' : World} (h : PB w c W) (hb : Ow W W') : PB w c W' := ⟨Ow.then h.ow hb, h.box.then hb, h.res.then hb⟩
theorem PB.alloc {w : World} {c : OC} {W : World} (h : PB w c W) (o : Obj) : PB w c (W.alloc o) := h.then ((Ow.refl _).alloc _)
theorem PB.set {w : World} {c : OC} {W : World} (h : PB w c W) {b : Nat} (hb : w.heap.size + 1 < b) (i : Nat) (v : Value) : PB w c (W.setCell ⟨b, i, none⟩ v) :=
  ⟨h.ow.set (by omega) _ _, h.box.other (by omega) _ _, h.res.other (by omega) _ _⟩
set_option maxRecDepth 100000 in
set_option maxHeartbeats 4000000 in
theorem pa_bad (k a b f p r v : Int) (s : ByteArray) (m : Int) (w : World) (hc : chkE ⟨k, a, b, f, p, r, v⟩ = m) (hm : m ≠ 0) :
    Calls Tryd.prog 7 #[.agg (ocells ⟨k, a, b, f, p, r, v⟩), .string s] w fun o w' => o = .returned (.tuple #[.agg (acells zeroA), .int .i64 m]) ∧ Ow w w' := by
  have HC := Lib.hid (fun W => check_any ⟨k, a, b, f, p, r, v⟩ _ hc W)
  have hb : (m == 0) = false := beq_eq_false_iff_ne.2 hm
  clear hc hm
  unfold ocells at HC ⊢
  go_enter Tryd.func7, Tryd.ntmps7
  go_wp2_with fail
  (go_at_call 17; refine (HC.out _).mono ?_; rintro e w1 ⟨rfl, hb1⟩)
  have HP := Lib.hid (PB.start w ⟨k, a, b, f, p, r, v⟩ w1 hb1)
  have r0 : w1.cell? ⟨w.heap.size, 0, none⟩ = some (.int .i64 k) := HP.out.box.at rfl
  have l1 := HP.out.box.lt
  have l2 := HP.out.res.lt
  clear hb1
  go_wp2_with (first
    | fail
    | (refine wpList_store_rowOf rfl 27 (.tmp 4) (.tmp 19) rfl (w.heap.size + 1) (by kernel_rfl) (by kernel_rfl) 27 _ (HP.out).res (by kernel_rfl) (by kernel_rfl) (by kernel_rfl) ?_))
  refine oa_ret (c := zeroA) (setRow_heap _ _ _ _ _ _ (HP.out).res) rfl rfl ?_
  exact ⟨rfl, (HP.out).ow.row (by omega) _⟩
set_option maxRecDepth 100000 in
set_option maxHeartbeats 4000000 in
theorem pa_err_no (k a b f p r v : Int) (s t : ByteArray) (n m : Int) (w : World) (hc : chkE ⟨k, a, b, f, p, r, v⟩ = 0) (hs : s.size ≤ 9000) (hg : Gl w) (hp : errT.isPrefixOf s.data.toList = true) (ht : t.data.toList = s.data.toList.drop 6) (hv : intV t.data.toList 1 999 = n) (hm : intE t.data.toList 1 999 = m) (hm0 : m ≠ 0) :
    Calls Tryd.prog 7 #[.agg (ocells ⟨k, a, b, f, p, r, v⟩), .string s] w fun o w' => o = .returned (.tuple #[.agg (acells zeroA), .int .i64 6]) ∧ Ow w w' := by
  have HC := Lib.hid (fun W => check_any ⟨k, a, b, f, p, r, v⟩ 0 hc W)
  clear hc
  have HPr : Hid (Lib.hasPrefix s.data.toList (⟨#[101, 114, 114, 111, 114, 32]⟩ : ByteArray).data.toList = true) := hp
  have HT : Hid (s.extract (⟨#[101, 114, 114, 111, 114, 32]⟩ : ByteArray).size s.size = t) := by
    refine ba_ext ?_
    rw [ht, ByteArray.data_extract, Array.toList_extract, List.extract_eq_take_drop, List.take_of_length_le (by rw [List.length_drop, ba_len]; exact Nat.le_refl _)]
    rfl
  have hts : t.size ≤ 9000 := by rw [← ba_len, ht, List.length_drop, ba_len]; omega
  have HI := Lib.hid (And.intro hv hm)
  have HG := Lib.hid hg
  clear hp ht hv hm hg
  have hb : (m == 0) = false := beq_eq_false_iff_ne.2 hm0
  clear hm0
  unfold ocells at HC ⊢
  go_enter Tryd.func7, Tryd.ntmps7
  go_wp2_with fail
  (go_at_call 17; refine (HC.out _).mono ?_; rintro e w1 ⟨rfl, hb1⟩)
  have HP := Lib.hid (PB.start w ⟨k, a, b, f, p, r, v⟩ w1 hb1)
  have r0 : w1.cell? ⟨w.heap.size, 0, none⟩ = some (.int .i64 k) := HP.out.box.at rfl
  have l1 := HP.out.box.lt
  have l2 := HP.out.res.lt
  clear hb1
  go_wp2_with (first
    | (go_at_call 18; refine (cut_yes _ _ HPr.out _).mono ?_; rintro e W ⟨rfl, rfl⟩; rw [HT.out])
    | (go_at_call 19; refine (wint_at t 1 999 n _ HI.out.1 HI.out.2 _ hts (HG.out.below (HP.out.alloc _).ow) ⟨by decide, by decide⟩).mono ?_; rintro e w2 ⟨rfl, hb2⟩; have HP2 := Lib.hid ((HP.out.alloc _).then hb2); clear hb2)
    | (refine wpList_store_rowOf rfl 27 (.tmp 4) (.tmp 34) rfl (w.heap.size + 1) (by kernel_rfl) (by kernel_rfl) 27 _ (HP2.out).res (by kernel_rfl) (by kernel_rfl) (by kernel_rfl) ?_))
  refine oa_ret (c := zeroA) (setRow_heap _ _ _ _ _ _ (HP2.out).res) rfl rfl ?_
  exact ⟨rfl, (HP2.out).ow.row (by omega) _⟩
set_option maxRecDepth 100000 in
set_option maxHeartbeats 4000000 in
theorem pa_err_ok (k a b f p r v : Int) (s t : ByteArray) (n m : Int) (w : World) (hc : chkE ⟨k, a, b, f, p, r, v⟩ = 0) (hs : s.size ≤ 9000) (hg : Gl w) (hp : errT.isPrefixOf s.data.toList = true) (ht : t.data.toList = s.data.toList.drop 6) (hv : intV t.data.toList 1 999 = n) (hm : intE t.data.toList 1 999 = m) (hm0 : m = 0) :
    Calls Tryd.prog 7 #[.agg (ocells ⟨k, a, b, f, p, r, v⟩), .string s] w fun o w' => o = .returned (.tuple #[.agg (acells ⟨n, false, 0⟩), .int .i64 0]) ∧ Ow w w' := by
  have HC := Lib.hid (fun W => check_any ⟨k, a, b, f, p, r, v⟩ 0 hc W)
  clear hc
  have HPr : Hid (Lib.hasPrefix s.data.toList (⟨#[101, 114, 114, 111, 114, 32]⟩ : ByteArray).data.toList = true) := hp
  have HT : Hid (s.extract (⟨#[101, 114, 114, 111, 114, 32]⟩ : ByteArray).size s.size = t) := by
    refine ba_ext ?_
    rw [ht, ByteArray.data_extract, Array.toList_extract, List.extract_eq_take_drop, List.take_of_length_le (by rw [List.length_drop, ba_len]; exact Nat.le_refl _)]
    rfl
  have hts : t.size ≤ 9000 := by rw [← ba_len, ht, List.length_drop, ba_len]; omega
  have HI := Lib.hid (And.intro hv hm)
  have HG := Lib.hid hg
  clear hp ht hv hm hg
  subst hm0
  unfold ocells at HC ⊢
  go_enter Tryd.func7, Tryd.ntmps7
  go_wp2_with fail
  (go_at_call 17; refine (HC.out _).mono ?_; rintro e w1 ⟨rfl, hb1⟩)
  have HP := Lib.hid (PB.start w ⟨k, a, b, f, p, r, v⟩ w1 hb1)
  have r0 : w1.cell? ⟨w.heap.size, 0, none⟩ = some (.int .i64 k) := HP.out.box.at rfl
  have l1 := HP.out.box.lt
  have l2 := HP.out.res.lt
  clear hb1
  go_wp2_with (first
    | (go_at_call 18; refine (cut_yes _ _ HPr.out _).mono ?_; rintro e W ⟨rfl, rfl⟩; rw [HT.out])
    | (go_at_call 19; refine (wint_at t 1 999 n _ HI.out.1 HI.out.2 _ hts (HG.out.below (HP.out.alloc _).ow) ⟨by decide, by decide⟩).mono ?_; rintro e w2 ⟨rfl, hb2⟩; have HP2 := Lib.hid ((HP.out.alloc _).then hb2); clear hb2)
    | (refine wpList_store_rowOf rfl 27 (.tmp 4) (.tmp 36) rfl (w.heap.size + 1) (by kernel_rfl) (by kernel_rfl) 27 _ (HP2.out).res (by kernel_rfl) (by kernel_rfl) (by kernel_rfl) ?_))
  refine oa_ret (c := ⟨n, false, 0⟩) (setRow_heap _ _ _ _ _ _ (HP2.out).res) rfl rfl ?_
  exact ⟨rfl, (HP2.out).ow.row (by omega) _⟩
set_option maxRecDepth 100000 in
set_option maxHeartbeats 4000000 in
theorem pa_yes8 (a b f p r v : Int)  (w : World) (hc : chkE ⟨8, a, b, f, p, r, v⟩ = 0) :
    Calls Tryd.prog 7 #[.agg (ocells ⟨8, a, b, f, p, r, v⟩), .string ⟨#[121, 101, 115]⟩] w fun o w' => o = .returned (.tuple #[.agg (acells ⟨0, true, 0⟩), .int .i64 0]) ∧ Ow w w' := by
  have HC := Lib.hid (fun W => check_any ⟨8, a, b, f, p, r, v⟩ 0 hc W)
  clear hc
  have HPr : Hid (Lib.hasPrefix (⟨#[121, 101, 115]⟩ : ByteArray).data.toList (⟨#[101, 114, 114, 111, 114, 32]⟩ : ByteArray).data.toList = false) := (by decide +kernel : Lib.hasPrefix _ _ = false)
  unfold ocells at HC ⊢
  go_enter Tryd.func7, Tryd.ntmps7
  go_wp2_with fail
  (go_at_call 17; refine (HC.out _).mono ?_; rintro e w1 ⟨rfl, hb1⟩)
  have HP := Lib.hid (PB.start w ⟨8, a, b, f, p, r, v⟩ w1 hb1)
  have r0 : w1.cell? ⟨w.heap.size, 0, none⟩ = some (.int .i64 8) := HP.out.box.at rfl
  have l1 := HP.out.box.lt
  have l2 := HP.out.res.lt
  clear hb1
  go_wp2_with (first
    | (go_at_call 18; refine (cut_no _ _ HPr.out _).mono ?_; rintro e W ⟨rfl, rfl⟩)
    | (refine wpList_store_rowOf rfl 27 (.tmp 4) (.tmp 75) rfl (w.heap.size + 1) (by kernel_rfl) (by kernel_rfl) 27 _ (HP.out.alloc _).res (by kernel_rfl) (by kernel_rfl) (by kernel_rfl) ?_))
  refine oa_ret (c := ⟨0, true, 0⟩) (setRow_heap _ _ _ _ _ _ (HP.out.alloc _).res) rfl rfl ?_
  exact ⟨rfl, (HP.out.alloc _).ow.row (by omega) _⟩
set_option maxRecDepth 100000 in
set_option maxHeartbeats 4000000 in
theorem pa_no8 (a b f p r v : Int)  (w : World) (hc : chkE ⟨8, a, b, f, p, r, v⟩ = 0) :
    Calls Tryd.prog 7 #[.agg (ocells ⟨8, a, b, f, p, r, v⟩), .string ⟨#[110, 111]⟩] w fun o w' => o = .returned (.tuple #[.agg (acells zeroA), .int .i64 0]) ∧ Ow w w' := by
  have HC := Lib.hid (fun W => check_any ⟨8, a, b, f, p, r, v⟩ 0 hc W)
  clear hc
  have HPr : Hid (Lib.hasPrefix (⟨#[110, 111]⟩ : ByteArray).data.toList (⟨#[101, 114, 114, 111, 114, 32]⟩ : ByteArray).data.toList = false) := (by decide +kernel : Lib.hasPrefix _ _ = false)
  unfold ocells at HC ⊢
  go_enter Tryd.func7, Tryd.ntmps7
  go_wp2_with fail
  (go_at_call 17; refine (HC.out _).mono ?_; rintro e w1 ⟨rfl, hb1⟩)
  have HP := Lib.hid (PB.start w ⟨8, a, b, f, p, r, v⟩ w1 hb1)
  have r0 : w1.cell? ⟨w.heap.size, 0, none⟩ = some (.int .i64 8) := HP.out.box.at rfl
  have l1 := HP.out.box.lt
  have l2 := HP.out.res.lt
  clear hb1
  go_wp2_with (first
    | (go_at_call 18; refine (cut_no _ _ HPr.out _).mono ?_; rintro e W ⟨rfl, rfl⟩)
    | (refine wpList_store_rowOf rfl 27 (.tmp 4) (.tmp 75) rfl (w.heap.size + 1) (by kernel_rfl) (by kernel_rfl) 27 _ (HP.out.alloc _).res (by kernel_rfl) (by kernel_rfl) (by kernel_rfl) ?_))
  refine oa_ret (c := zeroA) (setRow_heap _ _ _ _ _ _ (HP.out.alloc _).res) rfl rfl ?_
  exact ⟨rfl, (HP.out.alloc _).ow.row (by omega) _⟩
set_option maxRecDepth 100000 in
set_option maxHeartbeats 4000000 in
theorem pa_not8 (a b f p r v : Int) (s : ByteArray) (w : World) (hc : chkE ⟨8, a, b, f, p, r, v⟩ = 0) (hp : errT.isPrefixOf s.data.toList = false) (h1 : s.data.toList ≠ yesT) (h2 : s.data.toList ≠ noT) :
    Calls Tryd.prog 7 #[.agg (ocells ⟨8, a, b, f, p, r, v⟩), .string s] w fun o w' => o = .returned (.tuple #[.agg (acells zeroA), .int .i64 6]) ∧ Ow w w' := by
  have HC := Lib.hid (fun W => check_any ⟨8, a, b, f, p, r, v⟩ 0 hc W)
  clear hc
  have HPr : Hid (Lib.hasPrefix s.data.toList (⟨#[101, 114, 114, 111, 114, 32]⟩ : ByteArray).data.toList = false) := hp
  clear hp
  have n1 := str_ne (l := [121, 101, 115]) h1
  have n2 := str_ne (l := [110, 111]) h2
  clear h1 h2
  unfold ocells at HC ⊢
  go_enter Tryd.func7, Tryd.ntmps7
  go_wp2_with fail
  (go_at_call 17; refine (HC.out _).mono ?_; rintro e w1 ⟨rfl, hb1⟩)
  have HP := Lib.hid (PB.start w ⟨8, a, b, f, p, r, v⟩ w1 hb1)
  have r0 : w1.cell? ⟨w.heap.size, 0, none⟩ = some (.int .i64 8) := HP.out.box.at rfl
  have l1 := HP.out.box.lt
  have l2 := HP.out.res.lt
  clear hb1
  go_wp2_with (first
    | (go_at_call 18; refine (cut_no _ _ HPr.out _).mono ?_; rintro e W ⟨rfl, rfl⟩)
    | (refine wpList_store_rowOf rfl 27 (.tmp 4) (.tmp 74) rfl (w.heap.size + 1) (by kernel_rfl) (by kernel_rfl) 27 _ (HP.out.alloc _).res (by kernel_rfl) (by kernel_rfl) (by kernel_rfl) ?_))
  refine oa_ret (c := zeroA) (setRow_heap _ _ _ _ _ _ (HP.out.alloc _).res) rfl rfl ?_
  exact ⟨rfl, (HP.out.alloc _).ow.row (by omega) _⟩
set_option maxRecDepth 100000 in
set_option maxHeartbeats 4000000 in
theorem pa_yes9 (a b f p r v : Int)  (w : World) (hc : chkE ⟨9, a, b, f, p, r, v⟩ = 0) :
    Calls Tryd.prog 7 #[.agg (ocells ⟨9, a, b, f, p, r, v⟩), .string ⟨#[121, 101, 115]⟩] w fun o w' => o = .returned (.tuple #[.agg (acells ⟨0, true, 0⟩), .int .i64 0]) ∧ Ow w w' := by
  have HC := Lib.hid (fun W => check_any ⟨9, a, b, f, p, r, v⟩ 0 hc W)
  clear hc
  have HPr : Hid (Lib.hasPrefix (⟨#[121, 101, 115]⟩ : ByteArray).data.toList (⟨#[101, 114, 114, 111, 114, 32]⟩ : ByteArray).data.toList = false) := (by decide +kernel : Lib.hasPrefix _ _ = false)
  unfold ocells at HC ⊢
  go_enter Tryd.func7, Tryd.ntmps7
  go_wp2_with fail
  (go_at_call 17; refine (HC.out _).mono ?_; rintro e w1 ⟨rfl, hb1⟩)
  have HP := Lib.hid (PB.start w ⟨9, a, b, f, p, r, v⟩ w1 hb1)
  have r0 : w1.cell? ⟨w.heap.size, 0, none⟩ = some (.int .i64 9) := HP.out.box.at rfl
  have l1 := HP.out.box.lt
  have l2 := HP.out.res.lt
  clear hb1
  go_wp2_with (first
    | (go_at_call 18; refine (cut_no _ _ HPr.out _).mono ?_; rintro e W ⟨rfl, rfl⟩)
    | (refine wpList_store_rowOf rfl 27 (.tmp 4) (.tmp 75) rfl (w.heap.size + 1) (by kernel_rfl) (by kernel_rfl) 27 _ (HP.out.alloc _).res (by kernel_rfl) (by kernel_rfl) (by kernel_rfl) ?_))
  refine oa_ret (c := ⟨0, true, 0⟩) (setRow_heap _ _ _ _ _ _ (HP.out.alloc _).res) rfl rfl ?_
  exact ⟨rfl, (HP.out.alloc _).ow.row (by omega) _⟩
set_option maxRecDepth 100000 in
set_option maxHeartbeats 4000000 in
theorem pa_no9 (a b f p r v : Int)  (w : World) (hc : chkE ⟨9, a, b, f, p, r, v⟩ = 0) :
    Calls Tryd.prog 7 #[.agg (ocells ⟨9, a, b, f, p, r, v⟩), .string ⟨#[110, 111]⟩] w fun o w' => o = .returned (.tuple #[.agg (acells zeroA), .int .i64 0]) ∧ Ow w w' := by
  have HC := Lib.hid (fun W => check_any ⟨9, a, b, f, p, r, v⟩ 0 hc W)
  clear hc
  have HPr : Hid (Lib.hasPrefix (⟨#[110, 111]⟩ : ByteArray).data.toList (⟨#[101, 114, 114, 111, 114, 32]⟩ : ByteArray).data.toList = false) := (by decide +kernel : Lib.hasPrefix _ _ = false)
  unfold ocells at HC ⊢
  go_enter Tryd.func7, Tryd.ntmps7
  go_wp2_with fail
  (go_at_call 17; refine (HC.out _).mono ?_; rintro e w1 ⟨rfl, hb1⟩)
  have HP := Lib.hid (PB.start w ⟨9, a, b, f, p, r, v⟩ w1 hb1)
  have r0 : w1.cell? ⟨w.heap.size, 0, none⟩ = some (.int .i64 9) := HP.out.box.at rfl
  have l1 := HP.out.box.lt
  have l2 := HP.out.res.lt
  clear hb1
  go_wp2_with (first
    | (go_at_call 18; refine (cut_no _ _ HPr.out _).mono ?_; rintro e W ⟨rfl, rfl⟩)
    | (refine wpList_store_rowOf rfl 27 (.tmp 4) (.tmp 75) rfl (w.heap.size + 1) (by kernel_rfl) (by kernel_rfl) 27 _ (HP.out.alloc _).res (by kernel_rfl) (by kernel_rfl) (by kernel_rfl) ?_))
  refine oa_ret (c := zeroA) (setRow_heap _ _ _ _ _ _ (HP.out.alloc _).res) rfl rfl ?_
  exact ⟨rfl, (HP.out.alloc _).ow.row (by omega) _⟩
set_option maxRecDepth 100000 in
set_option maxHeartbeats 4000000 in
theorem pa_not9 (a b f p r v : Int) (s : ByteArray) (w : World) (hc : chkE ⟨9, a, b, f, p, r, v⟩ = 0) (hp : errT.isPrefixOf s.data.toList = false) (h1 : s.data.toList ≠ yesT) (h2 : s.data.toList ≠ noT) :
    Calls Tryd.prog 7 #[.agg (ocells ⟨9, a, b, f, p, r, v⟩), .string s] w fun o w' => o = .returned (.tuple #[.agg (acells zeroA), .int .i64 6]) ∧ Ow w w' := by
  have HC := Lib.hid (fun W => check_any ⟨9, a, b, f, p, r, v⟩ 0 hc W)
  clear hc
  have HPr : Hid (Lib.hasPrefix s.data.toList (⟨#[101, 114, 114, 111, 114, 32]⟩ : ByteArray).data.toList = false) := hp
  clear hp
  have n1 := str_ne (l := [121, 101, 115]) h1
  have n2 := str_ne (l := [110, 111]) h2
  clear h1 h2
  unfold ocells at HC ⊢
  go_enter Tryd.func7, Tryd.ntmps7
  go_wp2_with fail
  (go_at_call 17; refine (HC.out _).mono ?_; rintro e w1 ⟨rfl, hb1⟩)
  have HP := Lib.hid (PB.start w ⟨9, a, b, f, p, r, v⟩ w1 hb1)
  have r0 : w1.cell? ⟨w.heap.size, 0, none⟩ = some (.int .i64 9) := HP.out.box.at rfl
  have l1 := HP.out.box.lt
  have l2 := HP.out.res.lt
  clear hb1
  go_wp2_with (first
    | (go_at_call 18; refine (cut_no _ _ HPr.out _).mono ?_; rintro e W ⟨rfl, rfl⟩)
    | (refine wpList_store_rowOf rfl 27 (.tmp 4) (.tmp 74) rfl (w.heap.size + 1) (by kernel_rfl) (by kernel_rfl) 27 _ (HP.out.alloc _).res (by kernel_rfl) (by kernel_rfl) (by kernel_rfl) ?_))
  refine oa_ret (c := zeroA) (setRow_heap _ _ _ _ _ _ (HP.out.alloc _).res) rfl rfl ?_
  exact ⟨rfl, (HP.out.alloc _).ow.row (by omega) _⟩
set_option maxRecDepth 100000 in
set_option maxHeartbeats 4000000 in
theorem pa_rd_no (a b f p r v : Int) (s : ByteArray) (n m : Int) (w : World) (hc : chkE ⟨4, a, b, f, p, r, v⟩ = 0) (hp : errT.isPrefixOf s.data.toList = false) (hs : s.size ≤ 9000) (hg : Gl w) (hv : unhexN s.data.toList = n) (hm : unhexE s.data.toList = m) (hm0 : m ≠ 0) :
    Calls Tryd.prog 7 #[.agg (ocells ⟨4, a, b, f, p, r, v⟩), .string s] w fun o w' => o = .returned (.tuple #[.agg (acells zeroA), .int .i64 6]) ∧ Ow w w' := by
  have HC := Lib.hid (fun W => check_any ⟨4, a, b, f, p, r, v⟩ 0 hc W)
  clear hc
  have HPr : Hid (Lib.hasPrefix s.data.toList (⟨#[101, 114, 114, 111, 114, 32]⟩ : ByteArray).data.toList = false) := hp
  clear hp
  have HI := Lib.hid (And.intro hv hm)
  have HG := Lib.hid hg
  clear hv hm hg
  have hb : (m == 0) = false := beq_eq_false_iff_ne.2 hm0
  clear hm0
  unfold ocells at HC ⊢
  go_enter Tryd.func7, Tryd.ntmps7
  go_wp2_with fail
  (go_at_call 17; refine (HC.out _).mono ?_; rintro e w1 ⟨rfl, hb1⟩)
  have HP := Lib.hid (PB.start w ⟨4, a, b, f, p, r, v⟩ w1 hb1)
  have r0 : w1.cell? ⟨w.heap.size, 0, none⟩ = some (.int .i64 4) := HP.out.box.at rfl
  have l1 := HP.out.box.lt
  have l2 := HP.out.res.lt
  clear hb1
  go_wp2_with (first
    | (go_at_call 18; refine (cut_no _ _ HPr.out _).mono ?_; rintro e W ⟨rfl, rfl⟩)
    | (go_at_call 20; refine (unhex_is s n _ HI.out.1 HI.out.2 _ hs (HG.out.below (HP.out.alloc _).ow)).mono ?_; rintro e w2 ⟨rfl, hb2⟩; have HP2 := Lib.hid ((HP.out.alloc _).then hb2); have HA2 : Hid (Bx w1.heap.size (acells zeroA) 27 w2) := (Bx.new w1 _ _).then hb2; have c2 : w2.cell? ⟨w1.heap.size, 2, none⟩ = some (.int .u64 0) := HA2.out.at rfl; have z2 := HA2.out.z 2; clear hb2)
    | (refine wpList_store_rowOf rfl 27 (.tmp 4) (.tmp 74) rfl (w.heap.size + 1) (by kernel_rfl) (by kernel_rfl) 27 _ (HP2.out.set l2 2 (.int .u64 n)).res (by kernel_rfl) (by kernel_rfl) (by kernel_rfl) ?_))
  refine oa_ret (c := zeroA) (setRow_heap _ _ _ _ _ _ (HP2.out.set l2 2 (.int .u64 n)).res) rfl rfl ?_
  exact ⟨rfl, (HP2.out.set l2 2 (.int .u64 n)).ow.row (by omega) _⟩
set_option maxRecDepth 100000 in
set_option maxHeartbeats 4000000 in
theorem pa_rd_ok (a b f p r v : Int) (s : ByteArray) (n m : Int) (w : World) (hc : chkE ⟨4, a, b, f, p, r, v⟩ = 0) (hp : errT.isPrefixOf s.data.toList = false) (hs : s.size ≤ 9000) (hg : Gl w) (hv : unhexN s.data.toList = n) (hm : unhexE s.data.toList = m) (hm0 : m = 0) :
    Calls Tryd.prog 7 #[.agg (ocells ⟨4, a, b, f, p, r, v⟩), .string s] w fun o w' => o = .returned (.tuple #[.agg (acells ⟨0, false, n⟩), .int .i64 0]) ∧ Ow w w' := by
  have HC := Lib.hid (fun W => check_any ⟨4, a, b, f, p, r, v⟩ 0 hc W)
  clear hc
  have HPr : Hid (Lib.hasPrefix s.data.toList (⟨#[101, 114, 114, 111, 114, 32]⟩ : ByteArray).data.toList = false) := hp
  clear hp
  have HI := Lib.hid (And.intro hv hm)
  have HG := Lib.hid hg
  clear hv hm hg
  subst hm0
  unfold ocells at HC ⊢
  go_enter Tryd.func7, Tryd.ntmps7
  go_wp2_with fail
  (go_at_call 17; refine (HC.out _).mono ?_; rintro e w1 ⟨rfl, hb1⟩)
  have HP := Lib.hid (PB.start w ⟨4, a, b, f, p, r, v⟩ w1 hb1)
  have r0 : w1.cell? ⟨w.heap.size, 0, none⟩ = some (.int .i64 4) := HP.out.box.at rfl
  have l1 := HP.out.box.lt
  have l2 := HP.out.res.lt
  clear hb1
  go_wp2_with (first
    | (go_at_call 18; refine (cut_no _ _ HPr.out _).mono ?_; rintro e W ⟨rfl, rfl⟩)
    | (go_at_call 20; refine (unhex_is s n _ HI.out.1 HI.out.2 _ hs (HG.out.below (HP.out.alloc _).ow)).mono ?_; rintro e w2 ⟨rfl, hb2⟩; have HP2 := Lib.hid ((HP.out.alloc _).then hb2); have HA2 : Hid (Bx w1.heap.size (acells zeroA) 27 w2) := (Bx.new w1 _ _).then hb2; have c2 : w2.cell? ⟨w1.heap.size, 2, none⟩ = some (.int .u64 0) := HA2.out.at rfl; have z2 := HA2.out.z 2; clear hb2)
    | (refine wpList_load_row rfl 27 _ rfl w1.heap.size rfl 27 (acells ⟨0, false, n⟩) (0, 0) _ (HA2.out.set 2 (.int .u64 n)) Tryd.underlying27 rfl (by kernel_rfl) ?_)
    | (refine wpList_store_rowOf rfl 27 (.tmp 4) (.tmp 75) rfl (w.heap.size + 1) (by kernel_rfl) (by kernel_rfl) 27 _ (HP2.out.set l2 2 (.int .u64 n)).res (by kernel_rfl) (by kernel_rfl) (by kernel_rfl) ?_))
  refine oa_ret (c := ⟨0, false, n⟩) (setRow_heap _ _ _ _ _ _ (HP2.out.set l2 2 (.int .u64 n)).res) rfl rfl ?_
  exact ⟨rfl, (HP2.out.set l2 2 (.int .u64 n)).ow.row (by omega) _⟩
set_option maxRecDepth 100000 in
set_option maxHeartbeats 4000000 in
theorem pa_sz_no (a b f p r v : Int) (s : ByteArray) (n : Int) (w : World) (hc : chkE ⟨10, a, b, f, p, r, v⟩ = 0) (hp : errT.isPrefixOf s.data.toList = false) (hs : s.size ≤ 9000) (hg : Gl w) (hv : pairW s.data.toList = n) (hm : pairB s.data.toList = false) :
    Calls Tryd.prog 7 #[.agg (ocells ⟨10, a, b, f, p, r, v⟩), .string s] w fun o w' => o = .returned (.tuple #[.agg (acells zeroA), .int .i64 6]) ∧ Ow w w' := by
  have HC := Lib.hid (fun W => check_any ⟨10, a, b, f, p, r, v⟩ 0 hc W)
  clear hc
  have HPr : Hid (Lib.hasPrefix s.data.toList (⟨#[101, 114, 114, 111, 114, 32]⟩ : ByteArray).data.toList = false) := hp
  clear hp
  have HI := Lib.hid (And.intro hv hm)
  have HG := Lib.hid hg
  clear hv hm hg
  unfold ocells at HC ⊢
  go_enter Tryd.func7, Tryd.ntmps7
  go_wp2_with fail
  (go_at_call 17; refine (HC.out _).mono ?_; rintro e w1 ⟨rfl, hb1⟩)
  have HP := Lib.hid (PB.start w ⟨10, a, b, f, p, r, v⟩ w1 hb1)
  have r0 : w1.cell? ⟨w.heap.size, 0, none⟩ = some (.int .i64 10) := HP.out.box.at rfl
  have l1 := HP.out.box.lt
  have l2 := HP.out.res.lt
  clear hb1
  go_wp2_with (first
    | (go_at_call 18; refine (cut_no _ _ HPr.out _).mono ?_; rintro e W ⟨rfl, rfl⟩)
    | (go_at_call 21; refine (pair_any s n _ HI.out.1 HI.out.2 _ hs (HG.out.below (HP.out.alloc _).ow)).mono ?_; rintro e w2 ⟨rfl, hb2⟩; have HP2 := Lib.hid ((HP.out.alloc _).then hb2); have HA2 : Hid (Bx w1.heap.size (acells zeroA) 27 w2) := (Bx.new w1 _ _).then hb2; have c2 : w2.cell? ⟨w1.heap.size, 2, none⟩ = some (.int .u64 0) := HA2.out.at rfl; have z2 := HA2.out.z 2; clear hb2)
    | (refine wpList_store_rowOf rfl 27 (.tmp 4) (.tmp 74) rfl (w.heap.size + 1) (by kernel_rfl) (by kernel_rfl) 27 _ (HP2.out.set l2 2 (.int .u64 n)).res (by kernel_rfl) (by kernel_rfl) (by kernel_rfl) ?_))
  refine oa_ret (c := zeroA) (setRow_heap _ _ _ _ _ _ (HP2.out.set l2 2 (.int .u64 n)).res) rfl rfl ?_
  exact ⟨rfl, (HP2.out.set l2 2 (.int .u64 n)).ow.row (by omega) _⟩
set_option maxRecDepth 100000 in
set_option maxHeartbeats 4000000 in
theorem pa_sz_ok (a b f p r v : Int) (s : ByteArray) (n : Int) (w : World) (hc : chkE ⟨10, a, b, f, p, r, v⟩ = 0) (hp : errT.isPrefixOf s.data.toList = false) (hs : s.size ≤ 9000) (hg : Gl w) (hv : pairW s.data.toList = n) (hm : pairB s.data.toList = true) :
    Calls Tryd.prog 7 #[.agg (ocells ⟨10, a, b, f, p, r, v⟩), .string s] w fun o w' => o = .returned (.tuple #[.agg (acells ⟨0, false, n⟩), .int .i64 0]) ∧ Ow w w' := by
  have HC := Lib.hid (fun W => check_any ⟨10, a, b, f, p, r, v⟩ 0 hc W)
  clear hc
  have HPr : Hid (Lib.hasPrefix s.data.toList (⟨#[101, 114, 114, 111, 114, 32]⟩ : ByteArray).data.toList = false) := hp
  clear hp
  have HI := Lib.hid (And.intro hv hm)
  have HG := Lib.hid hg
  clear hv hm hg
  unfold ocells at HC ⊢
  go_enter Tryd.func7, Tryd.ntmps7
  go_wp2_with fail
  (go_at_call 17; refine (HC.out _).mono ?_; rintro e w1 ⟨rfl, hb1⟩)
  have HP := Lib.hid (PB.start w ⟨10, a, b, f, p, r, v⟩ w1 hb1)
  have r0 : w1.cell? ⟨w.heap.size, 0, none⟩ = some (.int .i64 10) := HP.out.box.at rfl
  have l1 := HP.out.box.lt
  have l2 := HP.out.res.lt
  clear hb1
  go_wp2_with (first
    | (go_at_call 18; refine (cut_no _ _ HPr.out _).mono ?_; rintro e W ⟨rfl, rfl⟩)
    | (go_at_call 21; refine (pair_any s n _ HI.out.1 HI.out.2 _ hs (HG.out.below (HP.out.alloc _).ow)).mono ?_; rintro e w2 ⟨rfl, hb2⟩; have HP2 := Lib.hid ((HP.out.alloc _).then hb2); have HA2 : Hid (Bx w1.heap.size (acells zeroA) 27 w2) := (Bx.new w1 _ _).then hb2; have c2 : w2.cell? ⟨w1.heap.size, 2, none⟩ = some (.int .u64 0) := HA2.out.at rfl; have z2 := HA2.out.z 2; clear hb2)
    | (refine wpList_load_row rfl 27 _ rfl w1.heap.size rfl 27 (acells ⟨0, false, n⟩) (0, 0) _ (HA2.out.set 2 (.int .u64 n)) Tryd.underlying27 rfl (by kernel_rfl) ?_)
    | (refine wpList_store_rowOf rfl 27 (.tmp 4) (.tmp 75) rfl (w.heap.size + 1) (by kernel_rfl) (by kernel_rfl) 27 _ (HP2.out.set l2 2 (.int .u64 n)).res (by kernel_rfl) (by kernel_rfl) (by kernel_rfl) ?_))
  refine oa_ret (c := ⟨0, false, n⟩) (setRow_heap _ _ _ _ _ _ (HP2.out.set l2 2 (.int .u64 n)).res) rfl rfl ?_
  exact ⟨rfl, (HP2.out.set l2 2 (.int .u64 n)).ow.row (by omega) _⟩
set_option maxRecDepth 100000 in
set_option maxHeartbeats 4000000 in
theorem pa_ok (k a b f p r v : Int)  (w : World) (hc : chkE ⟨k, a, b, f, p, r, v⟩ = 0) (h8 : k ≠ 8) (h9 : k ≠ 9) (h4 : k ≠ 4) (h10 : k ≠ 10) :
    Calls Tryd.prog 7 #[.agg (ocells ⟨k, a, b, f, p, r, v⟩), .string ⟨#[111, 107]⟩] w fun o w' => o = .returned (.tuple #[.agg (acells zeroA), .int .i64 0]) ∧ Ow w w' := by
  have HC := Lib.hid (fun W => check_any ⟨k, a, b, f, p, r, v⟩ 0 hc W)
  clear hc
  have n8 : (k == 8) = false := beq_eq_false_iff_ne.2 h8
  have n9 : (k == 9) = false := beq_eq_false_iff_ne.2 h9
  have n4 : (k == 4) = false := beq_eq_false_iff_ne.2 h4
  have n10 : (k == 10) = false := beq_eq_false_iff_ne.2 h10
  clear h8 h9 h4 h10
  have HPr : Hid (Lib.hasPrefix (⟨#[111, 107]⟩ : ByteArray).data.toList (⟨#[101, 114, 114, 111, 114, 32]⟩ : ByteArray).data.toList = false) := (by decide +kernel : Lib.hasPrefix _ _ = false)
  unfold ocells at HC ⊢
  go_enter Tryd.func7, Tryd.ntmps7
  go_wp2_with fail
  (go_at_call 17; refine (HC.out _).mono ?_; rintro e w1 ⟨rfl, hb1⟩)
  have HP := Lib.hid (PB.start w ⟨k, a, b, f, p, r, v⟩ w1 hb1)
  have r0 : w1.cell? ⟨w.heap.size, 0, none⟩ = some (.int .i64 k) := HP.out.box.at rfl
  have l1 := HP.out.box.lt
  have l2 := HP.out.res.lt
  clear hb1
  go_wp2_with (first
    | (go_at_call 18; refine (cut_no _ _ HPr.out _).mono ?_; rintro e W ⟨rfl, rfl⟩)
    | (refine wpList_store_rowOf rfl 27 (.tmp 4) (.tmp 75) rfl (w.heap.size + 1) (by kernel_rfl) (by kernel_rfl) 27 _ (HP.out.alloc _).res (by kernel_rfl) (by kernel_rfl) (by kernel_rfl) ?_))
  refine oa_ret (c := zeroA) (setRow_heap _ _ _ _ _ _ (HP.out.alloc _).res) rfl rfl ?_
  exact ⟨rfl, (HP.out.alloc _).ow.row (by omega) _⟩
set_option maxRecDepth 100000 in
set_option maxHeartbeats 4000000 in
theorem pa_not (k a b f p r v : Int) (s : ByteArray) (w : World) (hc : chkE ⟨k, a, b, f, p, r, v⟩ = 0) (h8 : k ≠ 8) (h9 : k ≠ 9) (h4 : k ≠ 4) (h10 : k ≠ 10) (hp : errT.isPrefixOf s.data.toList = false) (h1 : s.data.toList ≠ okT) :
    Calls Tryd.prog 7 #[.agg (ocells ⟨k, a, b, f, p, r, v⟩), .string s] w fun o w' => o = .returned (.tuple #[.agg (acells zeroA), .int .i64 6]) ∧ Ow w w' := by
  have HC := Lib.hid (fun W => check_any ⟨k, a, b, f, p, r, v⟩ 0 hc W)
  clear hc
  have HPr : Hid (Lib.hasPrefix s.data.toList (⟨#[101, 114, 114, 111, 114, 32]⟩ : ByteArray).data.toList = false) := hp
  clear hp
  have n8 : (k == 8) = false := beq_eq_false_iff_ne.2 h8
  have n9 : (k == 9) = false := beq_eq_false_iff_ne.2 h9
  have n4 : (k == 4) = false := beq_eq_false_iff_ne.2 h4
  have n10 : (k == 10) = false := beq_eq_false_iff_ne.2 h10
  clear h8 h9 h4 h10
  have n1 := str_ne (l := [111, 107]) h1
  clear h1
  unfold ocells at HC ⊢
  go_enter Tryd.func7, Tryd.ntmps7
  go_wp2_with fail
  (go_at_call 17; refine (HC.out _).mono ?_; rintro e w1 ⟨rfl, hb1⟩)
  have HP := Lib.hid (PB.start w ⟨k, a, b, f, p, r, v⟩ w1 hb1)
  have r0 : w1.cell? ⟨w.heap.size, 0, none⟩ = some (.int .i64 k) := HP.out.box.at rfl
  have l1 := HP.out.box.lt
  have l2 := HP.out.res.lt
  clear hb1
  go_wp2_with (first
    | (go_at_call 18; refine (cut_no _ _ HPr.out _).mono ?_; rintro e W ⟨rfl, rfl⟩)
    | (refine wpList_store_rowOf rfl 27 (.tmp 4) (.tmp 74) rfl (w.heap.size + 1) (by kernel_rfl) (by kernel_rfl) 27 _ (HP.out.alloc _).res (by kernel_rfl) (by kernel_rfl) (by kernel_rfl) ?_))
  refine oa_ret (c := zeroA) (setRow_heap _ _ _ _ _ _ (HP.out.alloc _).res) rfl rfl ?_
  exact ⟨rfl, (HP.out.alloc _).ow.row (by omega) _⟩
/-- What ParseAnswer returns. -/
theorem pa_any (c : OC) (s : ByteArray) (w : World) (hs : s.size ≤ 9000) (hg : Gl w) :
    Calls Tryd.prog 7 #[.agg (ocells c), .string s] w fun o w' => o = .returned (.tuple #[.agg (acells (paA c s.data.toList)), .int .i64 (paE c s.data.toList)]) ∧ Ow w w' := by
  obtain ⟨k, a, b, f, p, r, v⟩ := c
  by_cases hc : chkE ⟨k, a, b, f, p, r, v⟩ = 0
  · have ok : ∀ x, parA ⟨k, a, b, f, p, r, v⟩ s.data.toList = some x → paE ⟨k, a, b, f, p, r, v⟩ s.data.toList = 0 ∧ paA ⟨k, a, b, f, p, r, v⟩ s.data.toList = x := fun x h => paE_ok hc h
    have no : parA ⟨k, a, b, f, p, r, v⟩ s.data.toList = none → paE ⟨k, a, b, f, p, r, v⟩ s.data.toList = 6 ∧ paA ⟨k, a, b, f, p, r, v⟩ s.data.toList = zeroA := fun h => paE_no hc h
    unfold Sc.parA at ok no
    simp only at ok no
    cases hp : errT.isPrefixOf s.data.toList with
    | true =>
      rw [hp] at ok no
      simp only [if_true] at ok no
      by_cases hm : intE (s.data.toList.drop 6) 1 999 = 0
      · rw [if_pos hm] at ok
        obtain ⟨e1, e2⟩ := ok _ rfl
        rw [e1, e2]
        exact pa_err_ok k a b f p r v s ⟨(s.data.toList.drop 6).toArray⟩ _ _ w hc hs hg hp rfl rfl rfl hm
      · rw [if_neg hm] at no
        obtain ⟨e1, e2⟩ := no rfl
        rw [e1, e2]
        exact pa_err_no k a b f p r v s ⟨(s.data.toList.drop 6).toArray⟩ _ _ w hc hs hg hp rfl rfl rfl hm
    | false =>
      rw [hp] at ok no
      simp only [Bool.false_eq_true, if_false] at ok no
      by_cases h89 : k = 8 ∨ k = 9
      · rw [if_pos h89] at ok no
        by_cases hy : s.data.toList = yesT
        · rw [if_pos hy] at ok
          obtain ⟨e1, e2⟩ := ok _ rfl
          rw [e1, e2, str_of hy]
          rcases h89 with rfl | rfl
          · exact pa_yes8 _ _ _ _ _ _ w hc
          · exact pa_yes9 _ _ _ _ _ _ w hc
        · rw [if_neg hy] at ok no
          by_cases hn : s.data.toList = noT
          · rw [if_pos hn] at ok
            obtain ⟨e1, e2⟩ := ok _ rfl
            rw [e1, e2, str_of hn]
            rcases h89 with rfl | rfl
            · exact pa_no8 _ _ _ _ _ _ w hc
            · exact pa_no9 _ _ _ _ _ _ w hc
          · rw [if_neg hn] at no
            obtain ⟨e1, e2⟩ := no rfl
            rw [e1, e2]
            rcases h89 with rfl | rfl
            · exact pa_not8 _ _ _ _ _ _ s w hc hp hy hn
            · exact pa_not9 _ _ _ _ _ _ s w hc hp hy hn
      · rw [if_neg h89] at ok no
        by_cases h4 : k = 4
        · subst h4
          rw [if_pos rfl] at ok no
          by_cases hm : unhexE s.data.toList = 0
          · rw [if_pos hm] at ok
            obtain ⟨e1, e2⟩ := ok _ rfl
            rw [e1, e2]
            exact pa_rd_ok _ _ _ _ _ _ s _ _ w hc hp hs hg rfl rfl hm
          · rw [if_neg hm] at no
            obtain ⟨e1, e2⟩ := no rfl
            rw [e1, e2]
            exact pa_rd_no _ _ _ _ _ _ s _ _ w hc hp hs hg rfl rfl hm
        · rw [if_neg h4] at ok no
          by_cases h10 : k = 10
          · subst h10
            rw [if_pos rfl, pair_val] at ok no
            cases hb : pairB s.data.toList with
            | true =>
              rw [hb, if_pos rfl] at ok
              obtain ⟨e1, e2⟩ := ok _ rfl
              rw [e1, e2]
              exact pa_sz_ok _ _ _ _ _ _ s _ w hc hp hs hg rfl hb
            | false =>
              rw [hb, if_neg (by decide)] at no
              obtain ⟨e1, e2⟩ := no rfl
              rw [e1, e2]
              exact pa_sz_no _ _ _ _ _ _ s _ w hc hp hs hg rfl hb
          · rw [if_neg h10] at ok no
            by_cases ho : s.data.toList = okT
            · rw [if_pos ho] at ok
              obtain ⟨e1, e2⟩ := ok _ rfl
              rw [e1, e2, str_of ho]
              exact pa_ok _ _ _ _ _ _ _ w hc (fun e => h89 (.inl e)) (fun e => h89 (.inr e)) h4 h10
            · rw [if_neg ho] at no
              obtain ⟨e1, e2⟩ := no rfl
              rw [e1, e2]
              exact pa_not _ _ _ _ _ _ _ s w hc (fun e => h89 (.inl e)) (fun e => h89 (.inr e)) h4 h10 hp ho
  · obtain ⟨e1, e2⟩ := paE_bad (l := s.data.toList) hc
    rw [e1, e2]
    exact pa_bad k a b f p r v s _ w rfl hc
end Go.Proofs.YtaojogaakhidhaaDoor

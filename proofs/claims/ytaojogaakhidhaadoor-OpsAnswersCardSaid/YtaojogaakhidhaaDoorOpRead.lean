/- Package ops: read. -/
import Derived.Test.YtaojogaakhidhaaDoorQ3
import Derived.Test.YtaojogaakhidhaaDoorOpUnh
import Derived.Test.YtaojogaakhidhaaDoorOpFld
namespace Go.Proofs.YtaojogaakhidhaaDoor
open Go.RowKit
open Sc (OC OA num setN inR fldE fldN rdE rdC readE readC)

theorem ocells_put (c : OC) (k : Nat) (x : Int) (h1 : 1 ≤ k) (h5 : k ≤ 5) : (ocells c).setIfInBounds k (.int .i64 x) = ocells (setN c k x) := by
  obtain rfl | rfl | rfl | rfl | rfl : k = 1 ∨ k = 2 ∨ k = 3 ∨ k = 4 ∨ k = 5 := by omega
  all_goals rfl
theorem ocells_val (c : OC) (x : Int) : (ocells c).setIfInBounds 6 (.int .u64 x) = ocells (setN c 6 x) := rfl
/-- The cells of fields in a block. -/
structure FC (G off : Nat) (xs : List (List UInt8 × Bool)) (W : World) : Prop where
  lt : G < W.heap.size
  fld : ∀ (i : Nat) x, xs[i]? = some x → W.cell? ⟨G, off + i * 2, none⟩ = some (.string ⟨x.1.toArray⟩) ∧ W.cell? ⟨G, off + i * 2 + 1, none⟩ = some (.bool x.2)
theorem FC.then {G off : Nat} {xs : List (List UInt8 × Bool)} {W W' : World} (h : FC G off xs W) (hb : Ow W W') : FC G off xs W' :=
  ⟨Nat.lt_of_lt_of_le h.lt hb.size, fun i x hx => ⟨(hb.cell (p := ⟨G, off + i * 2, none⟩) h.lt).trans (h.fld i x hx).1, (hb.cell (p := ⟨G, off + i * 2 + 1, none⟩) h.lt).trans (h.fld i x hx).2⟩⟩
theorem FC.set {G off : Nat} {xs : List (List UInt8 × Bool)} {W : World} (h : FC G off xs W) {b : Nat} (hb : G ≠ b) (i : Nat) (v : Value) : FC G off xs (W.setCell ⟨b, i, none⟩ v) := by
  have hh := heap_setCell_other W ⟨b, i, none⟩ G v hb
  refine ⟨by simpa using h.lt, fun j x hx => ?_⟩
  have := h.fld j x hx
  unfold World.cell? at this ⊢
  simp only at this ⊢
  rw [hh]; exact this
/-- What stands in the loop of read. -/
structure RI (w0 w : World) (bp n g G off : Nat) (xs : List (List UInt8 × Bool)) (C : OC) (W : World) : Prop where
  ow : Ow w0 W
  c : Bx bp (ocells C) 24 W
  row : n ≤ 10 → g ≠ bp ∧ Bx g (intCells (kfInts n)) 3 W
  fs : G ≠ bp ∧ FC G off xs W
  oth : ∀ b cs T, b ≠ bp → Bx b cs T w → Bx b cs T W
theorem RI.then {w0 w : World} {bp n g G off : Nat} {xs : List (List UInt8 × Bool)} {C : OC} {W W' : World} (h : RI w0 w bp n g G off xs C W) (hb : Ow W W') : RI w0 w bp n g G off xs C W' :=
  ⟨Ow.then h.ow hb, h.c.then hb, fun h10 => ⟨(h.row h10).1, (h.row h10).2.then hb⟩, ⟨h.fs.1, h.fs.2.then hb⟩, fun b cs T h1 h2 => (h.oth b cs T h1 h2).then hb⟩
theorem RI.set {w0 w : World} {bp n g G off : Nat} {xs : List (List UInt8 × Bool)} {C C' : OC} {W : World} (h : RI w0 w bp n g G off xs C W) (hp : w0.heap.size ≤ bp) (i : Nat) (v : Value) (hc : (ocells C).setIfInBounds i v = ocells C') : RI w0 w bp n g G off xs C' (W.setCell ⟨bp, i, none⟩ v) :=
  ⟨h.ow.set hp _ _, by rw [← hc]; exact h.c.set i v, fun h10 => ⟨(h.row h10).1, (h.row h10).2.other (h.row h10).1 _ _⟩, ⟨h.fs.1, h.fs.2.set h.fs.1 _ _⟩, fun b cs T h1 h2 => (h.oth b cs T h1 h2).other h1 _ _⟩
theorem RI.cell {w0 w : World} {bp n g G off i : Nat} {xs : List (List UInt8 × Bool)} {C : OC} {W : World} (h : RI w0 w bp n g G off xs C W) (h10 : n ≤ 10) {j : Nat} (hj : (Sc.kf (n : Int))[i]? = some j) : W.cell? ⟨g, i, none⟩ = some (.int .i64 j) := by
  refine (h.row h10).2.at ?_
  simp [intCells, kfInts, hj]
/-- What read leaves. -/
def RdP (w0 w : World) (bp : Nat) (E : Int) (C : OC) (e : Ending) (w' : World) : Prop :=
  e = .returned (.int .i64 E) ∧ Ow w0 w' ∧ (E = 0 → Bx bp (ocells C) 24 w') ∧ ∀ b cs T, b ≠ bp → Bx b cs T w → Bx b cs T w'
set_option maxRecDepth 100000 in
set_option maxHeartbeats 4000000 in
theorem read_any (w0 w : World) (n g G off cap bp : Nat) (nm : ByteArray) (q : Option Addr) (xs : List (List UInt8 × Bool)) (c : OC) (h1 : 1 ≤ n) (h11 : n ≤ 11) (hq : n ≤ 10 → q = some ⟨g, 0, none⟩)
    (hl : (Sc.kf (n : Int)).length = xs.length) (hxs : ∀ x ∈ xs, x.1.length ≤ 9000) (hp : w0.heap.size ≤ bp) (hR : RI w0 w bp n g G off xs c w) (hgl : Gl w0) :
    Calls Tryd.prog 26 #[.agg #[.string nm, .slice q (Sc.kf (n : Int)).length (Sc.kf (n : Int)).length], .pointer (some ⟨bp, 0, none⟩), .slice (some ⟨G, off, none⟩) xs.length cap] w (RdP w0 w bp (readE (Sc.kf (n : Int)) xs) (readC c (Sc.kf (n : Int)) xs)) := by
  have HQ := Lib.hid hq
  have HL := Lib.hid hl
  have HX := Lib.hid hxs
  have HR := Lib.hid hR
  have HG := Lib.hid hgl
  have hk3 := Sc.kf_three (n : Int)
  obtain ⟨E, hE⟩ : ∃ E, readE (Sc.kf (n : Int)) xs = E := ⟨_, rfl⟩
  obtain ⟨C, hC⟩ : ∃ C, readC c (Sc.kf (n : Int)) xs = C := ⟨_, rfl⟩
  rw [hE, hC]
  have HE := Lib.hid hE
  have HC := Lib.hid hC
  rw [← hl]
  obtain ⟨L, hL⟩ : ∃ L, (Sc.kf (n : Int)).length = L := ⟨_, rfl⟩
  rw [hL] at hk3 ⊢
  have HLL := Lib.hid hL
  clear hq hl hxs hR hgl hE hC hL
  go_enter Tryd.func26, Tryd.ntmps26
  go_wp2_with fail
  go_loopw [6, 14] (fun ev ix wr => ∃ (i : Nat) (E1 : Int), i ≤ L ∧ ev = .int .i64 E1 ∧ ix = .int .i64 i ∧ Hid (E1 = rdE (Sc.kf (n : Int)) xs i) ∧ Hid (E1 = 0 ∨ E1 = 7) ∧ Hid (RI w0 w bp n g G off xs (rdC c (Sc.kf (n : Int)) xs i) wr)) (fun _ ix _ => L - (intOf ix).toNat)
  case atStart => exact ⟨0, 0, Nat.zero_le _, rfl, rfl, (Sc.rdE_zero _ _).symm, .inl rfl, by rw [Hid, Sc.rdC_zero]; exact HR.out.then ((Ow.refl _).alloc _)⟩
  case round =>
    obtain ⟨i, E1, hi, rfl, rfl, HE1, HE6, HI⟩ := hrel
    by_cases hlt : i < L
    · obtain ⟨j, hj⟩ : ∃ j, (Sc.kf (n : Int))[i]? = some j := ⟨_, List.getElem?_eq_getElem (by rw [HLL.out]; exact hlt)⟩
      obtain ⟨x, hx⟩ : ∃ x, xs[i]? = some x := ⟨_, List.getElem?_eq_getElem (by rw [← HL.out, HLL.out]; exact hlt)⟩
      have h10 := ten_of (n := n) (i := i) (by omega) (by rw [HLL.out]; exact hlt)
      have hcell := HI.out.cell h10 hj
      obtain rfl := HQ.out h10
      have el : decide (i < L) = true := by simpa using hlt
      have hin := Sc.kf_in n (by omega) j (List.mem_of_getElem? hj)
      obtain ⟨s, qd⟩ := x
      obtain ⟨f0, f1⟩ := HI.out.fs.2.fld i _ hx
      have hsz := HX.out _ (List.mem_of_getElem? hx)
      have hEn := Sc.rdE_next HL.out hj hx
      have hCn := Sc.rdC_next (c := c) HL.out hj hx
      have HS6 := Lib.hid (fun h => Sc.rdE_six HL.out hj hx h)
      simp only at f0 f1 hsz
      rw [← HE1.out] at hEn
      have HN := Lib.hid (And.intro hEn hCn)
      clear hj hx hEn hCn
      cases qd with
      | true =>
        have HEE : Hid (E = 6) := by rw [Hid, ← HE.out]; exact HS6.out rfl
        go_wp2_with fail
        go_ret
        rw [HEE.out]
        exact ⟨rfl, HI.out.ow, fun h => absurd h (by decide), HI.out.oth⟩
      | false =>
        by_cases h6 : j = 6
        · subst h6
          have hfe : fldE 6 (s, false) = Sc.unhexE s := by simp [fldE]
          have hfn : fldN 6 (s, false) = Sc.unhexN s := by simp [fldN]
          obtain ⟨vv, hvv⟩ : ∃ vv, Sc.unhexN s = vv := ⟨_, rfl⟩
          have HV : Hid (Sc.unhexN (⟨s.toArray⟩ : ByteArray).data.toList = vv) := hvv
          have HFN : Hid (fldN 6 (s, false) = vv) := by rw [Hid, hfn, hvv]
          clear hvv
          have h3 := Sc.fldE_cases 6 (s, false)
          rw [hfe] at h3
          rcases h3 with h | h | h
          · have HM : Hid (Sc.unhexE (⟨s.toArray⟩ : ByteArray).data.toList = 0) := h
            have HN1 : Hid (rdE (Sc.kf (n : Int)) xs (i + 1) = E1) := by
              rw [Hid, HN.out.1, hfe, h]
              rcases HE6.out with h0 | h0 <;> rw [h0] <;> rfl
            clear h hfe hfn
            go_wp2_with (go_at_call 20; refine (unhex_is ⟨s.toArray⟩ vv 0 HV.out HM.out _ (by rw [← ba_len]; exact hsz) (HG.out.below HI.out.ow)).mono ?_; rintro e w3 ⟨rfl, hb3⟩; have r6 : w3.cell? ⟨bp, 6, none⟩ = some (.int .u64 (rdC c (Sc.kf (n : Int)) xs i).v) := (HI.out.then hb3).c.at rfl; have z6 := (HI.out.then hb3).c.z 6)
            go_roundw
            case rel => exact ⟨i + 1, _, by omega, rfl, by go_num, HN1.out.symm, HE6, by rw [Hid, HN.out.2]; exact (HI.out.then hb3).set hp 6 (.int .u64 vv) (by rw [ocells_val, ← HFN.out])⟩
            case measure => simp [intOf]; omega
          · have HM : Hid (Sc.unhexE (⟨s.toArray⟩ : ByteArray).data.toList = 6) := h
            have HEE : Hid (E = 6) := by rw [Hid, ← HE.out]; exact HS6.out (by rw [hfe]; exact h)
            clear h hfe hfn
            go_wp2_with (go_at_call 20; refine (unhex_is ⟨s.toArray⟩ vv 6 HV.out HM.out _ (by rw [← ba_len]; exact hsz) (HG.out.below HI.out.ow)).mono ?_; rintro e w3 ⟨rfl, hb3⟩; have r6 : w3.cell? ⟨bp, 6, none⟩ = some (.int .u64 (rdC c (Sc.kf (n : Int)) xs i).v) := (HI.out.then hb3).c.at rfl; have z6 := (HI.out.then hb3).c.z 6)
            go_ret
            rw [HEE.out]
            have hz := (HI.out.then hb3).set hp 6 (.int .u64 vv) (by rw [ocells_val, ← HFN.out])
            exact ⟨rfl, hz.ow, fun h => absurd h (by decide), hz.oth⟩
          · have HM : Hid (Sc.unhexE (⟨s.toArray⟩ : ByteArray).data.toList = 7) := h
            have HN1 : Hid (rdE (Sc.kf (n : Int)) xs (i + 1) = 7) := by
              rw [Hid, HN.out.1, hfe, h]
              rcases HE6.out with h0 | h0 <;> rw [h0] <;> rfl
            clear h hfe hfn
            go_wp2_with (go_at_call 20; refine (unhex_is ⟨s.toArray⟩ vv 7 HV.out HM.out _ (by rw [← ba_len]; exact hsz) (HG.out.below HI.out.ow)).mono ?_; rintro e w3 ⟨rfl, hb3⟩; have r6 : w3.cell? ⟨bp, 6, none⟩ = some (.int .u64 (rdC c (Sc.kf (n : Int)) xs i).v) := (HI.out.then hb3).c.at rfl; have z6 := (HI.out.then hb3).c.z 6)
            go_roundw
            case rel => exact ⟨i + 1, _, by omega, rfl, by go_num, HN1.out.symm, .inr rfl, by rw [Hid, HN.out.2]; exact (HI.out.then hb3).set hp 6 (.int .u64 vv) (by rw [ocells_val, ← HFN.out])⟩
            case measure => simp [intOf]; omega
        · have HB : Hid (1 ≤ j ∧ j ≤ 5) := ⟨hin.1, by omega⟩
          have hfe : fldE j (s, false) = Wd.intE s (-1000000000) 1000000000 := by simp [fldE, h6]
          have hfn : fldN j (s, false) = Wd.intV s (-1000000000) 1000000000 := by simp [fldN, h6]
          obtain ⟨vv, hvv⟩ : ∃ vv, Wd.intV s (-1000000000) 1000000000 = vv := ⟨_, rfl⟩
          have HV : Hid (Wd.intV (⟨s.toArray⟩ : ByteArray).data.toList (-1000000000) 1000000000 = vv) := hvv
          have HFN : Hid (fldN j (s, false) = vv) := by rw [Hid, hfn, hvv]
          have h6' : ¬ (j : Int) = 6 := by omega
          clear hvv hin
          have h3 := Sc.fldE_cases j (s, false)
          rw [hfe] at h3
          clear h6
          rcases h3 with h | h | h
          · have HM : Hid (Wd.intE (⟨s.toArray⟩ : ByteArray).data.toList (-1000000000) 1000000000 = 0) := h
            have HN1 : Hid (rdE (Sc.kf (n : Int)) xs (i + 1) = E1) := by
              rw [Hid, HN.out.1, hfe, h]
              rcases HE6.out with h0 | h0 <;> rw [h0] <;> rfl
            clear h hfe hfn
            go_wp2_with (first
              | (go_at_call 19; refine (int_any ⟨s.toArray⟩ (-1000000000) 1000000000 _ (by rw [← ba_len]; exact hsz) (HG.out.below HI.out.ow) ⟨by decide, by decide⟩).mono ?_; rintro e w3 ⟨he, hb3⟩; rw [HV.out, HM.out] at he; subst he)
              | (go_at_call 30; refine (number_any bp j HB.out.1 HB.out.2 _).mono ?_; rintro e w4 ⟨rfl, hb4⟩; have r6 : w4.cell? ⟨bp, j, none⟩ = some (.int .i64 (num (rdC c (Sc.kf (n : Int)) xs i) j)) := ((HI.out.then hb3).then hb4).c.at (ocells_num _ j HB.out.1 HB.out.2); have z6 := ((HI.out.then hb3).then hb4).c.z j))
            go_roundw
            case rel => exact ⟨i + 1, _, by omega, rfl, by go_num, HN1.out.symm, HE6, by rw [Hid, HN.out.2]; exact ((HI.out.then hb3).then hb4).set hp j (.int .i64 vv) (by rw [ocells_put _ _ _ HB.out.1 HB.out.2, ← HFN.out])⟩
            case measure => simp [intOf]; omega
          · have HM : Hid (Wd.intE (⟨s.toArray⟩ : ByteArray).data.toList (-1000000000) 1000000000 = 6) := h
            have HEE : Hid (E = 6) := by rw [Hid, ← HE.out]; exact HS6.out (by rw [hfe]; exact h)
            clear h hfe hfn
            go_wp2_with (first
              | (go_at_call 19; refine (int_any ⟨s.toArray⟩ (-1000000000) 1000000000 _ (by rw [← ba_len]; exact hsz) (HG.out.below HI.out.ow) ⟨by decide, by decide⟩).mono ?_; rintro e w3 ⟨he, hb3⟩; rw [HV.out, HM.out] at he; subst he)
              | (go_at_call 30; refine (number_any bp j HB.out.1 HB.out.2 _).mono ?_; rintro e w4 ⟨rfl, hb4⟩; have r6 : w4.cell? ⟨bp, j, none⟩ = some (.int .i64 (num (rdC c (Sc.kf (n : Int)) xs i) j)) := ((HI.out.then hb3).then hb4).c.at (ocells_num _ j HB.out.1 HB.out.2); have z6 := ((HI.out.then hb3).then hb4).c.z j))
            go_ret
            rw [HEE.out]
            have hz := ((HI.out.then hb3).then hb4).set hp j (.int .i64 vv) (by rw [ocells_put _ _ _ HB.out.1 HB.out.2, ← HFN.out])
            exact ⟨rfl, hz.ow, fun h => absurd h (by decide), hz.oth⟩
          · have HM : Hid (Wd.intE (⟨s.toArray⟩ : ByteArray).data.toList (-1000000000) 1000000000 = 7) := h
            have HN1 : Hid (rdE (Sc.kf (n : Int)) xs (i + 1) = 7) := by
              rw [Hid, HN.out.1, hfe, h]
              rcases HE6.out with h0 | h0 <;> rw [h0] <;> rfl
            clear h hfe hfn
            go_wp2_with (first
              | (go_at_call 19; refine (int_any ⟨s.toArray⟩ (-1000000000) 1000000000 _ (by rw [← ba_len]; exact hsz) (HG.out.below HI.out.ow) ⟨by decide, by decide⟩).mono ?_; rintro e w3 ⟨he, hb3⟩; rw [HV.out, HM.out] at he; subst he)
              | (go_at_call 30; refine (number_any bp j HB.out.1 HB.out.2 _).mono ?_; rintro e w4 ⟨rfl, hb4⟩; have r6 : w4.cell? ⟨bp, j, none⟩ = some (.int .i64 (num (rdC c (Sc.kf (n : Int)) xs i) j)) := ((HI.out.then hb3).then hb4).c.at (ocells_num _ j HB.out.1 HB.out.2); have z6 := ((HI.out.then hb3).then hb4).c.z j))
            go_roundw
            case rel => exact ⟨i + 1, _, by omega, rfl, by go_num, HN1.out.symm, .inr rfl, by rw [Hid, HN.out.2]; exact ((HI.out.then hb3).then hb4).set hp j (.int .i64 vv) (by rw [ocells_put _ _ _ HB.out.1 HB.out.2, ← HFN.out])⟩
            case measure => simp [intOf]; omega
    · have el : decide (i < L) = false := by simpa using hlt
      have HF : Hid (E1 = E) := by rw [Hid, HE1.out, ← HE.out]; exact Sc.rdE_all HL.out (by rw [HLL.out]; omega)
      have HF2 : Hid (rdC c (Sc.kf (n : Int)) xs i = C) := by rw [Hid, ← HC.out]; exact Sc.rdC_all HL.out (by rw [HLL.out]; omega)
      clear hlt
      go_wp2_with fail
      go_ret
      rw [HF.out]
      exact ⟨rfl, HI.out.ow, fun _ => by rw [← HF2.out]; exact HI.out.c, HI.out.oth⟩
end Go.Proofs.YtaojogaakhidhaaDoor

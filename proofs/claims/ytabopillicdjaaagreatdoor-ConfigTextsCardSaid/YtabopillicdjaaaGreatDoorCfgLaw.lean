/- The law ConfigTexts, walked (printed by gen/cfglawt.py). -/
import Derived.Test.YtabopillicdjaaaGreatDoorCfgRef
import Derived.Test.YtabopillicdjaaaGreatDoorAwake
namespace Go.Proofs.YtabopillicdjaaaGreatDoor
open Go.RowKit
open Wd (cpE cpN cfgT cfgStrs)

theorem str_eq {u t : ByteArray} (h : u = t) (m : Int) : Ending.returned (.tuple #[.string u, .int .i64 m]) = .returned (.tuple #[.string t, .int .i64 m]) := by rw [h]
theorem pr_strs {C N S K Q : Int} (h : okC C N S K Q = true) : (prStrs C N S K Q).map (·.data.toList) = cfgStrs C N S K Q := by
  obtain ⟨h1, h2, h3, h4, h5, h6, h7, h8, h9, h10⟩ := okC_bounds h
  have e : ∀ n : Int, 0 ≤ n → Lib.itoa n = Lib.decDigits n.toNat := fun n hn => by unfold Lib.itoa; rw [if_neg (by omega)]
  simp [prStrs, cfgStrs, Wd.cfgWord, e N (by omega), e C (by omega), e S (by omega), e K (by omega), e Q (by omega)]
set_option maxHeartbeats 1000000 in
theorem pr_is (C N S K Q : Int) (t : ByteArray) (m : Int) (ht : t.data.toList = if okC C N S K Q = true then cfgT C N S K Q else []) (hm : chkE C N S K Q = m) (w : World) :
    Calls Tryz.prog 18 #[.agg #[.int .i64 C, .int .i64 N, .int .i64 S, .int .i64 K, .int .i64 Q]] w fun e w' => e = .returned (.tuple #[.string t, .int .i64 m]) ∧ Ow w w' := by
  subst hm
  cases h : okC C N S K Q with
  | true =>
    refine (print_ok C N S K Q w h).mono fun e w' ⟨h1, h2⟩ => ⟨?_, h2⟩
    rw [h1, chkE, if_pos h]
    refine str_eq (ba_ext ?_) _
    rw [ht, h, if_pos rfl, pr_strs h]; rfl
  | false =>
    have H := Lib.hid h
    have HT : Hid ((⟨#[]⟩ : ByteArray) = t) := ba_ext (by rw [ht, h]; rfl)
    have HC : Hid (chkE C N S K Q = 7) := by rw [Hid, chkE, h]; rfl
    have HA : Hid (Ow w (w.alloc (.cells #[.int .i64 C, .int .i64 N, .int .i64 S, .int .i64 K, .int .i64 Q] 45))) := (Ow.refl _).alloc _
    clear h ht
    go_enter Tryz.func18, Tryz.ntmps18
    go_wp2_with (go_at_call 47; refine (check_bad _ _ _ _ _ _ H.out).mono ?_; rintro e w1 ⟨rfl, hb⟩)
    go_ret2
    rw [HC.out]
    exact ⟨str_eq HT.out _, HA.out.then hb⟩
theorem rpr_is (C N S K Q : Int) (t : ByteArray) (m : Int) (ht : t.data.toList = if okC C N S K Q = true then cfgT C N S K Q else []) (hm : chkE C N S K Q = m) (w : World) :
    Calls Tryz.prog 19 #[.agg #[.int .i64 C, .int .i64 N, .int .i64 S, .int .i64 K, .int .i64 Q]] w fun e w' => e = .returned (.tuple #[.string t, .int .i64 m]) ∧ Ow w w' := by
  subst hm
  refine (rprint_any C N S K Q w).mono fun e w' ⟨⟨u, h1, h2⟩, h3⟩ => ⟨?_, h3⟩
  rw [h2]
  exact str_eq (ba_ext (by rw [h1, ht])) _
structure Pv (s : ByteArray) (n0 n1 n2 n3 n4 pe : Int) : Prop where
  e : cpE s.data.toList = pe
  e0 : cpN s.data.toList 0 = n0
  e1 : cpN s.data.toList 1 = n1
  e2 : cpN s.data.toList 2 = n2
  e3 : cpN s.data.toList 3 = n3
  e4 : cpN s.data.toList 4 = n4
theorem cp_is (s : ByteArray) (n0 n1 n2 n3 n4 pe : Int) (h : Pv s n0 n1 n2 n3 n4 pe) (w : World) (hs : s.size ≤ 9000) (hg : Gn w) :
    Calls Tryz.prog 20 #[.string s] w fun e w' => e = .returned (.tuple #[.agg #[.int .i64 n1, .int .i64 n0, .int .i64 n2, .int .i64 n3, .int .i64 n4], .int .i64 pe]) ∧ Ow w w' := by
  have := cparse_any s w hs hg
  unfold CtPost at this
  rwa [h.e, h.e0, h.e1, h.e2, h.e3, h.e4] at this
theorem rp_is (s : ByteArray) (n0 n1 n2 n3 n4 pe : Int) (h : Pv s n0 n1 n2 n3 n4 pe) (w : World) (hs : s.size ≤ 9000) :
    Calls Tryz.prog 21 #[.string s] w fun e w' => e = .returned (.tuple #[.agg #[.int .i64 n1, .int .i64 n0, .int .i64 n2, .int .i64 n3, .int .i64 n4], .int .i64 pe]) ∧ Ow w w' := by
  have := rparse_any s w hs
  unfold CtPost at this
  rwa [h.e, h.e0, h.e1, h.e2, h.e3, h.e4] at this
theorem cfgT_len {C N S K Q : Int} (h : okC C N S K Q = true) : (cfgT C N S K Q).length ≤ 9000 := by
  obtain ⟨h1, h2, h3, h4, h5, h6, h7, h8, h9, h10⟩ := okC_bounds h
  have i1 := itoa_le (n := C) ⟨by omega, by omega⟩
  have i2 := itoa_le (n := N) ⟨by omega, by omega⟩
  have i3 := itoa_le (n := S) ⟨by omega, by omega⟩
  have i4 := itoa_le (n := K) ⟨by omega, by omega⟩
  have i5 := itoa_le (n := Q) ⟨by omega, by omega⟩
  simp [cfgT, cfgStrs, Wd.cfgWord, Lib.join, List.intercalate]
  omega

set_option maxRecDepth 100000 in
set_option maxHeartbeats 8000000 in
theorem texts_walk (C N S K Q : Int) (s : ByteArray) (w : World) (_hz : s.size ≤ maxLen) (hg : Gn w) :
    Calls Tryz.prog 4 #[.agg #[.int .i64 C, .int .i64 N, .int .i64 S, .int .i64 K, .int .i64 Q], .string s] w fun e w' => e = .returned (.bool true) ∧ Ow w w' := by
  unfold maxLen at _hz
  have HG := Lib.hid hg
  have HA : Hid (Ow w (w.alloc (.cells #[.int .i64 C, .int .i64 N, .int .i64 S, .int .i64 K, .int .i64 Q] 45))) := (Ow.refl _).alloc _
  have HX : Hid (Bx w.heap.size #[.int .i64 C, .int .i64 N, .int .i64 S, .int .i64 K, .int .i64 Q] 45 (w.alloc (.cells #[.int .i64 C, .int .i64 N, .int .i64 S, .int .i64 K, .int .i64 Q] 45))) := Bx.new _ _ _
  clear hg
  by_cases h1 : 300 < s.size
  · have e1 : (300 : Int) < (s.size : Int) := by omega
    clear h1
    go_enter Tryz.func4, Tryz.ntmps4
    go_wp2_with (go_at_call 17; refine (awake_any _).mono ?_; rintro e w1 ⟨rfl, hb1⟩)
    go_ret
    exact ⟨rfl, HA.out.then hb1⟩
  have e1 : decide ((300 : Int) < (s.size : Int)) = false := decide_eq_false (by omega)
  have hs : s.size ≤ 9000 := by omega
  clear h1 _hz
  obtain ⟨t, ht⟩ : ∃ t : ByteArray, t.data.toList = if okC C N S K Q = true then cfgT C N S K Q else [] := ⟨⟨(if okC C N S K Q = true then cfgT C N S K Q else []).toArray⟩, rfl⟩
  obtain ⟨m, hm⟩ : ∃ m, chkE C N S K Q = m := ⟨_, rfl⟩
  obtain ⟨n0, n1, n2, n3, n4, pe, hp⟩ : ∃ n0 n1 n2 n3 n4 pe, Pv s n0 n1 n2 n3 n4 pe := ⟨_, _, _, _, _, _, ⟨rfl, rfl, rfl, rfl, rfl, rfl⟩⟩
  have HT := Lib.hid ht
  have HM := Lib.hid hm
  have HP := Lib.hid hp
  clear ht hm hp
  go_enter Tryz.func4, Tryz.ntmps4
  go_wp2_with fail
  (go_at_call 18; refine (pr_is C N S K Q t m HT.out HM.out _).mono ?_; rintro e w1 ⟨rfl, hb1⟩)
  have O1 := Lib.hid (HA.out.then hb1)
  have X1 := Lib.hid (HX.out.then hb1)
  have c0 := X1.out.at (i := 0) rfl
  have c1 := X1.out.at (i := 1) rfl
  have c2 := X1.out.at (i := 2) rfl
  have c3 := X1.out.at (i := 3) rfl
  have c4 := X1.out.at (i := 4) rfl
  clear hb1
  go_wp2_with fail
  (go_at_call 19; refine (rpr_is C N S K Q t m HT.out HM.out _).mono ?_; rintro e w2 ⟨rfl, hb2⟩)
  have O2 := Lib.hid (O1.out.then hb2)
  have X2 := Lib.hid (X1.out.then hb2)
  clear hb2 c0 c1 c2 c3 c4
  go_wp2_with fail
  (go_at_call 20; refine (cp_is s n0 n1 n2 n3 n4 pe HP.out _ hs (HG.out.below O2.out)).mono ?_; rintro e w3 ⟨rfl, hb3⟩)
  have O3 := Lib.hid (O2.out.then hb3)
  have X3 := Lib.hid (X2.out.then hb3)
  have A3 : Hid (Bx w3.heap.size #[.int .i64 n1, .int .i64 n0, .int .i64 n2, .int .i64 n3, .int .i64 n4] 45 (w3.alloc (.cells #[.int .i64 n1, .int .i64 n0, .int .i64 n2, .int .i64 n3, .int .i64 n4] 45))) := Bx.new _ _ _
  have O3' : Hid (Ow w (w3.alloc (.cells #[.int .i64 n1, .int .i64 n0, .int .i64 n2, .int .i64 n3, .int .i64 n4] 45))) := O3.out.alloc _
  have X3' : Hid (Bx w.heap.size #[.int .i64 C, .int .i64 N, .int .i64 S, .int .i64 K, .int .i64 Q] 45 (w3.alloc (.cells #[.int .i64 n1, .int .i64 n0, .int .i64 n2, .int .i64 n3, .int .i64 n4] 45))) := X3.out.alloc _
  clear hb3
  go_wp2_with fail
  (go_at_call 21; refine (rp_is s n0 n1 n2 n3 n4 pe HP.out _ hs).mono ?_; rintro e w4 ⟨rfl, hb4⟩)
  have O4 := Lib.hid (O3'.out.then hb4)
  have X4 := Lib.hid (X3'.out.then hb4)
  have A4 := Lib.hid (A3.out.then hb4)
  have O5 : Hid (Ow w (w4.alloc (.cells #[.int .i64 n1, .int .i64 n0, .int .i64 n2, .int .i64 n3, .int .i64 n4] 45))) := O4.out.alloc _
  have X5 : Hid (Bx w.heap.size #[.int .i64 C, .int .i64 N, .int .i64 S, .int .i64 K, .int .i64 Q] 45 (w4.alloc (.cells #[.int .i64 n1, .int .i64 n0, .int .i64 n2, .int .i64 n3, .int .i64 n4] 45))) := X4.out.alloc _
  have A5 : Hid (Bx w3.heap.size #[.int .i64 n1, .int .i64 n0, .int .i64 n2, .int .i64 n3, .int .i64 n4] 45 (w4.alloc (.cells #[.int .i64 n1, .int .i64 n0, .int .i64 n2, .int .i64 n3, .int .i64 n4] 45))) := A4.out.alloc _
  have B5 : Hid (Bx w4.heap.size #[.int .i64 n1, .int .i64 n0, .int .i64 n2, .int .i64 n3, .int .i64 n4] 45 (w4.alloc (.cells #[.int .i64 n1, .int .i64 n0, .int .i64 n2, .int .i64 n3, .int .i64 n4] 45))) := Bx.new _ _ _
  clear hb4
  have a0 := A5.out.at (i := 0) rfl
  have a1 := A5.out.at (i := 1) rfl
  have a2 := A5.out.at (i := 2) rfl
  have a3 := A5.out.at (i := 3) rfl
  have a4 := A5.out.at (i := 4) rfl
  have b0 := B5.out.at (i := 0) rfl
  have b1 := B5.out.at (i := 1) rfl
  have b2 := B5.out.at (i := 2) rfl
  have b3 := B5.out.at (i := 3) rfl
  have b4 := B5.out.at (i := 4) rfl
  have c0 := X5.out.at (i := 0) rfl
  have c1 := X5.out.at (i := 1) rfl
  have c2 := X5.out.at (i := 2) rfl
  have c3 := X5.out.at (i := 3) rfl
  have c4 := X5.out.at (i := 4) rfl
  cases hk : okC C N S K Q with
  | false =>
    have H := Lib.hid hk
    obtain rfl : m = 7 := by rw [← HM.out, chkE, hk]; rfl
    clear hk
    by_cases hpe : pe = 0
    · subst hpe
      have HCn : Hid (okC n1 n0 n2 n3 n4 = true) := by have := Wd.cp_cfg HP.out.e; rwa [HP.out.e0, HP.out.e1, HP.out.e2, HP.out.e3, HP.out.e4] at this
      have HTx : Hid (s.data.toList = if okC n1 n0 n2 n3 n4 = true then cfgT n1 n0 n2 n3 n4 else []) := by
        rw [Hid, HCn.out, if_pos rfl]
        have := Wd.print_parse HP.out.e
        rw [HP.out.e0, HP.out.e1, HP.out.e2, HP.out.e3, HP.out.e4] at this
        exact this.symm
      have HCe : Hid (chkE n1 n0 n2 n3 n4 = 0) := by rw [Hid, chkE, if_pos HCn.out]
      go_wp2_with fail
      (go_at_call 18; refine (pr_is n1 n0 n2 n3 n4 s 0 HTx.out HCe.out _).mono ?_; rintro e w8 ⟨rfl, hb8⟩)
      have O8 := Lib.hid (O5.out.then hb8)
      clear hb8
      go_wp2_with (go_at_call 17; refine (awake_any _).mono ?_; rintro e w9 ⟨rfl, hb9⟩)
      go_ret
      exact ⟨rfl, O8.out.then hb9⟩
    · have epe : (pe == 0) = false := by rw [beq_eq_false_iff_ne]; exact hpe
      clear hpe
      go_wp2_with (go_at_call 17; refine (awake_any _).mono ?_; rintro e w9 ⟨rfl, hb9⟩)
      go_ret
      exact ⟨rfl, O5.out.then hb9⟩
  | true =>
    have H := Lib.hid hk
    obtain rfl : m = 0 := by rw [← HM.out, chkE, if_pos hk]
    have HT2 : Hid (t.data.toList = cfgT C N S K Q) := by rw [Hid, HT.out, hk, if_pos rfl]
    have hts : t.size ≤ 9000 := by rw [← ba_len, HT2.out]; exact cfgT_len hk
    have HPv : Hid (Pv t N C S K Q 0) := by
      obtain ⟨q, q0, q1, q2, q3, q4⟩ := Wd.parse_print hk
      exact ⟨by rw [HT2.out]; exact q, by rw [HT2.out]; exact q0, by rw [HT2.out]; exact q1, by rw [HT2.out]; exact q2, by rw [HT2.out]; exact q3, by rw [HT2.out]; exact q4⟩
    clear hk
    go_wp2_with fail
    (go_at_call 20; refine (cp_is t N C S K Q 0 HPv.out _ hts (HG.out.below O5.out)).mono ?_; rintro e w6 ⟨rfl, hb6⟩)
    have O6 := Lib.hid (O5.out.then hb6)
    have X6 := Lib.hid (X5.out.then hb6)
    have A6 := Lib.hid (A5.out.then hb6)
    have O7 : Hid (Ow w (w6.alloc (.cells #[.int .i64 C, .int .i64 N, .int .i64 S, .int .i64 K, .int .i64 Q] 45))) := O6.out.alloc _
    have X7 : Hid (Bx w.heap.size #[.int .i64 C, .int .i64 N, .int .i64 S, .int .i64 K, .int .i64 Q] 45 (w6.alloc (.cells #[.int .i64 C, .int .i64 N, .int .i64 S, .int .i64 K, .int .i64 Q] 45))) := X6.out.alloc _
    have A7 : Hid (Bx w3.heap.size #[.int .i64 n1, .int .i64 n0, .int .i64 n2, .int .i64 n3, .int .i64 n4] 45 (w6.alloc (.cells #[.int .i64 C, .int .i64 N, .int .i64 S, .int .i64 K, .int .i64 Q] 45))) := A6.out.alloc _
    have D7 : Hid (Bx w6.heap.size #[.int .i64 C, .int .i64 N, .int .i64 S, .int .i64 K, .int .i64 Q] 45 (w6.alloc (.cells #[.int .i64 C, .int .i64 N, .int .i64 S, .int .i64 K, .int .i64 Q] 45))) := Bx.new _ _ _
    clear hb6 a0 a1 a2 a3 a4 b0 b1 b2 b3 b4 c0 c1 c2 c3 c4
    have a0 := A7.out.at (i := 0) rfl
    have a1 := A7.out.at (i := 1) rfl
    have a2 := A7.out.at (i := 2) rfl
    have a3 := A7.out.at (i := 3) rfl
    have a4 := A7.out.at (i := 4) rfl
    have c0 := X7.out.at (i := 0) rfl
    have c1 := X7.out.at (i := 1) rfl
    have c2 := X7.out.at (i := 2) rfl
    have c3 := X7.out.at (i := 3) rfl
    have c4 := X7.out.at (i := 4) rfl
    have d0 := D7.out.at (i := 0) rfl
    have d1 := D7.out.at (i := 1) rfl
    have d2 := D7.out.at (i := 2) rfl
    have d3 := D7.out.at (i := 3) rfl
    have d4 := D7.out.at (i := 4) rfl
    by_cases hpe : pe = 0
    · subst hpe
      have HCn : Hid (okC n1 n0 n2 n3 n4 = true) := by have := Wd.cp_cfg HP.out.e; rwa [HP.out.e0, HP.out.e1, HP.out.e2, HP.out.e3, HP.out.e4] at this
      have HTx : Hid (s.data.toList = if okC n1 n0 n2 n3 n4 = true then cfgT n1 n0 n2 n3 n4 else []) := by
        rw [Hid, HCn.out, if_pos rfl]
        have := Wd.print_parse HP.out.e
        rw [HP.out.e0, HP.out.e1, HP.out.e2, HP.out.e3, HP.out.e4] at this
        exact this.symm
      have HCe : Hid (chkE n1 n0 n2 n3 n4 = 0) := by rw [Hid, chkE, if_pos HCn.out]
      go_wp2_with fail
      (go_at_call 18; refine (pr_is n1 n0 n2 n3 n4 s 0 HTx.out HCe.out _).mono ?_; rintro e w8 ⟨rfl, hb8⟩)
      have O8 := Lib.hid (O7.out.then hb8)
      clear hb8
      go_wp2_with (go_at_call 17; refine (awake_any _).mono ?_; rintro e w9 ⟨rfl, hb9⟩)
      go_ret
      exact ⟨rfl, O8.out.then hb9⟩
    · have epe : (pe == 0) = false := by rw [beq_eq_false_iff_ne]; exact hpe
      clear hpe
      go_wp2_with (go_at_call 17; refine (awake_any _).mono ?_; rintro e w9 ⟨rfl, hb9⟩)
      go_ret
      exact ⟨rfl, O7.out.then hb9⟩
end Go.Proofs.YtabopillicdjaaaGreatDoor

/- The reference of chapter 1: ParseList, walked (printed by gen/wrparw.py). -/
import Derived.Test.YtkbbkolanbgajaaGreatDoorWRNx
import Derived.Deep.RegionHeld3
namespace Go.Proofs.YtkbbkolanbgajaaGreatDoor
open Go.RowKit
open Wd (natB valN decimalB lessB runOf runsF expL expP cntP lastV plE plS partsL farTo Pr intV intE decVal)

theorem rdecimal_q (s : ByteArray) (b : Bool) (h : decimalB s.data.toList = b) (w : World) (hs : s.size ≤ 9000) :
    Calls Tryz.prog 59 #[.string s] w fun e w' => e = .returned (.bool b) ∧ w' = w := (rdecimal_same s b h w hs).mono fun _ _ ⟨h1, h2⟩ => ⟨h1, h2.symm⟩
theorem less_q (a b : ByteArray) (r : Bool) (hr : lessB a.data.toList b.data.toList = r) (w : World) :
    Calls Tryz.prog 60 #[.string a, .string b] w fun e w' => e = .returned (.bool r) ∧ w' = w := (less_is a b r hr w).mono fun _ _ ⟨h1, h2⟩ => ⟨h1, h2.symm⟩
theorem parts_no_mem (c : UInt8) : ∀ (l : List UInt8), ∀ p ∈ partsL c l, ∀ x ∈ p, x ≠ c
  | [], p, hp, x, hx => by simp [Wd.partsL] at hp; subst hp; cases hx
  | d :: r, p, hp, x, hx => by
    have ih := parts_no_mem c r
    rw [Wd.partsL] at hp
    by_cases h : d = c
    · rw [if_pos h] at hp
      rcases List.mem_cons.1 hp with rfl | hp
      · cases hx
      · exact ih p hp x hx
    · rw [if_neg h] at hp
      match hq : partsL c r, hp, ih with
      | [], _, _ => exact absurd hq (Wd.parts_ne c r)
      | q :: qs, hp, ih =>
        simp only at hp
        rcases List.mem_cons.1 hp with rfl | hp
        · rcases List.mem_cons.1 hx with rfl | hx
          · exact h
          · exact ih q (by simp) x hx
        · exact ih p (by simp [hp]) x hx
theorem run_p1 {x y : List UInt8} (h : partsL 45 x = [y]) : runOf x = if decimalB y = true then some (y, y) else none := by
  unfold Wd.runOf
  rw [h]
  simp only
  rw [Wd.natB_dec (parts_no_mem 45 x y (by rw [h]; simp))]
theorem run_p2 {x y z : List UInt8} (h : partsL 45 x = [y, z]) : runOf x = if decimalB y = true ∧ decimalB z = true ∧ lessB y z = true then some (y, z) else none := by
  unfold Wd.runOf
  rw [h]
  simp only
  have h1 := Wd.natB_dec (parts_no_mem 45 x y (by rw [h]; simp))
  have h2 := Wd.natB_dec (parts_no_mem 45 x z (by rw [h]; simp))
  rw [← h1, ← h2]
  by_cases hy : natB y = true
  · by_cases hz : natB z = true
    · have := Wd.less_val hy hz
      by_cases hl : valN y < valN z
      · rw [if_pos ⟨hy, hz, hl⟩, if_pos ⟨hy, hz, by rw [this]; exact decide_eq_true hl⟩]
      · rw [if_neg (fun e => hl e.2.2), if_neg (fun e => by have h := e.2.2; rw [this, decide_eq_true_eq] at h; exact hl h)]
    · rw [if_neg (fun e => hz e.2.1), if_neg (fun e => hz e.2.1)]
  · rw [if_neg (fun e => hy e.1), if_neg (fun e => hy e.1)]
theorem run_p3 {x : List UInt8} (h : 2 < (partsL 45 x).length) : runOf x = none := by
  unfold Wd.runOf
  match partsL 45 x, h with
  | _ :: _ :: _ :: _, _ => rfl
def firstsC (rs : List Pr) : List Value := rs.map fun p => .string ⟨p.1.toArray⟩
def lastsC (rs : List Pr) : List Value := rs.map fun p => .string ⟨p.2.toArray⟩
theorem firstsC_snoc (rs : List Pr) (p : Pr) : firstsC (rs ++ [p]) = firstsC rs ++ [.string ⟨p.1.toArray⟩] := by simp [firstsC]
theorem lastsC_snoc (rs : List Pr) (p : Pr) : lastsC (rs ++ [p]) = lastsC rs ++ [.string ⟨p.2.toArray⟩] := by simp [lastsC]
/-- Two rows do not lie in one block. -/
def Dj (f l : Value) : Prop := ∀ b, f.ownBlock = some b → l.ownBlock ≠ some b
theorem dj_ne {f l : Value} (h : Dj f l) : l.ownBlock = none ∨ l.ownBlock ≠ f.ownBlock := by
  cases hf : f.ownBlock with
  | none =>
    cases hl : l.ownBlock with
    | none => exact .inl rfl
    | some b => exact .inr (by simp)
  | some b => exact .inr (h b hf)
theorem dj_first {f l : Value} {g H : Nat} (h : Dj f l) (hl : ∀ b, l.ownBlock = some b → b < H) (hat : f.ownBlock = some g ∨ g = H) : l.ownBlock ≠ some g := by
  rcases hat with h1 | h1
  · exact h g h1
  · intro e
    have := hl g e
    omega
theorem dj_second {l : Value} {g g' H : Nat} (h : l.ownBlock ≠ some g) (hat : l.ownBlock = some g' ∨ g' = H) (hlt : g < H) : g ≠ g' := by
  rintro rfl
  rcases hat with h1 | h1
  · exact h h1
  · omega
/-- Between the operations of a region: what lay in w lies as it lay. -/
structure Hd (w : World) (g : Nat) (y : ByteArray) (w' : World) : Prop where
  ow : Ow w w'
  lt : g < w.heap.size
  c : w.cell? ⟨g, 0, none⟩ = some (.string y)
theorem Hd.all {w : World} {g : Nat} {y : ByteArray} {w' : World} (h : Hd w g y w') : Hd w g y w' ∧ w'.cell? ⟨g, 0, none⟩ = some (.string y) := ⟨h, (h.ow.cell (p := ⟨g, 0, none⟩) h.lt).trans h.c⟩
theorem Hd.drew {w : World} {g : Nat} {y : ByteArray} {w' : World} (h : Hd w g y w') : Hd w g y w'.drew := ⟨h.ow.drew, h.lt, h.c⟩
theorem Hd.after {w : World} {g : Nat} {y : ByteArray} {W w1 : World} {q : Prop} (hb : Ow W w1) (h : Hd w g y W ∧ q) : Hd w g y w1 := ⟨h.1.ow.then hb, h.1.lt, h.1.c⟩
theorem Hd.fin {w : World} {g : Nat} {y : ByteArray} {W : World} {q : Prop} (h : Hd w g y W ∧ q) : Ow w W := h.1.ow
set_option maxRecDepth 100000 in
set_option maxHeartbeats 8000000 in
theorem rParseList_any (s : ByteArray) (w : World) (hs : s.size ≤ 9000) :
    Calls Tryz.prog 26 #[.string s] w (PlPost s w) := by
  by_cases h45 : s.data.toList = [45]
  · have HF : Hid (plE s.data.toList = 0 ∧ plS s.data.toList = []) := by rw [h45]; exact ⟨rfl, rfl⟩
    obtain rfl : s = ⟨#[45]⟩ := ba_ext h45
    clear h45
    go_enter Tryz.func26, Tryz.ntmps26
    go_wp2
    go_ret2
    unfold PlPost
    rw [HF.out.1, HF.out.2]
    exact ⟨_, rfl, .inl ⟨rfl, _, _, rfl⟩, Ow.refl _⟩
  · have es : (s.toList == [45]) = false := by rw [ba_toList, beq_eq_false_iff_ne]; exact h45
    have HS := Lib.hid h45
    obtain ⟨L, hL⟩ : ∃ L, partsL 44 s.data.toList = L := ⟨_, rfl⟩
    obtain ⟨n, hn⟩ : ∃ n, L.length = n := ⟨_, rfl⟩
    have hLne : L ≠ [] := by rw [← hL]; exact Wd.parts_ne 44 _
    have hn0 : 0 < n := by rw [← hn]; exact List.length_pos_iff.2 hLne
    have hnb : n ≤ 9001 := by
      have := Wd.parts_len 44 s.data.toList
      have h2 := List.count_le_length (a := (44 : UInt8)) (l := s.data.toList)
      rw [hL, hn] at this
      rw [ba_len] at h2
      omega
    have HMem := Lib.hid (mem_ge L 44 _ hL)
    have HLL := Lib.hid hL
    have HN := Lib.hid hn
    clear hL hn hLne h45
    obtain ⟨i0, hi0, hz0, hz1, hz2⟩ := info_parts Tryz.infoStr
    obtain ⟨j0, hj0, hy0, hy1, hy2⟩ := info_parts Tryz.infoInt
    go_enter Tryz.func26, Tryz.ntmps26
    go_wp2_with fail
    (go_at_call 58; refine (parts_is s 44 44 rfl L HLL.out n HN.out _ hs).mono ?_; rintro e W1 ⟨gR, capR, rfl, hgR, hcR, hb1⟩)
    have HC1 := Lib.hid hcR
    have O1 : Hid (Ow w W1) := hb1
    clear hcR hb1
    go_wp2_with fail
    go_loopw [4, 5, 6, 8, 9] (fun lst fi la idx _ wr => ∃ (k : Nat) (rs : List Pr) (lt : ByteArray), k ≤ n ∧ idx = .int .i64 k ∧ lst = .string lt ∧ Rn L k rs lt ∧ lt.size ≤ 9000 ∧ wr.ownsRow W1.heap.size 9 1 fi k (firstsC rs) ∧ wr.ownsRow W1.heap.size 9 1 la k (lastsC rs) ∧ Dj fi la ∧ Ow W1 wr) (fun _ _ _ idx _ _ => n - (intOf idx).toNat)
    case atStart => exact ⟨0, [], ⟨#[]⟩, by omega, rfl, rfl, Rn.start L _, by decide, World.ownsRow_nil _ _ _ _, World.ownsRow_nil _ _ _ _, fun b hb => by simp [Value.ownBlock] at hb, Ow.refl _⟩
    case round =>
      obtain ⟨k, rs, lt, hk, rfl, rfl, hrn, hlt9, hownf, hownl, hdj, hb⟩ := hrel
      have HRn := Lib.hid hrn
      have HOf := Lib.hid hownf
      have HOl := Lib.hid hownl
      have HDj := Lib.hid hdj
      have HB := Lib.hid hb
      have hszr : W1.heap.size ≤ wr.heap.size := hb.size
      clear hrn hownf hownl hdj hb
      by_cases hlt : k < n
      · obtain ⟨X, hX⟩ : ∃ x, L[k]? = some x := ⟨L[k]'(by rw [HN.out]; exact hlt), List.getElem?_eq_getElem (by rw [HN.out]; exact hlt)⟩
        have ck := (HB.out.cell (p := ⟨gR, k, none⟩) hgR).trans (HC1.out k X hX)
        obtain ⟨x, hx⟩ : ∃ x : ByteArray, x = ⟨X.toArray⟩ := ⟨_, rfl⟩
        have HXX : Hid (x.data.toList = X) := by rw [hx]; rfl
        rw [← hx] at ck
        have hxs : x.size ≤ 9000 := by
          have := HMem.out X (List.mem_of_getElem? hX)
          rw [← HXX.out, ba_len, ba_len] at this
          omega
        have HX : Hid (L[k]? = some x.data.toList) := by rw [Hid, HXX.out]; exact hX
        have el : decide (k < n) = true := by simpa using hlt
        obtain ⟨E, hE⟩ : ∃ E, partsL 45 x.data.toList = E := ⟨_, rfl⟩
        have hEm := mem_ge E 45 _ hE
        have hEn : E ≠ [] := by rw [← hE]; exact Wd.parts_ne 45 _
        clear hx hX
        by_cases h2 : 2 < E.length
        · obtain ⟨m, hm⟩ : ∃ m, E.length = m := ⟨_, rfl⟩
          have HF := Lib.hid (pl_form HS.out (by rw [HLL.out]; exact HRn.out.bad HX.out (run_p3 (by rw [hE]; exact h2))))
          rw [hm] at h2
          have h2i : (2 : Int) < (m : Int) := by omega
          have HE := Lib.hid hE
          have HMm := Lib.hid hm
          clear hE hEm hEn hm
          go_wp2_with fail
          (go_at_call 58; refine (parts_is x 45 45 rfl E HE.out m HMm.out _ hxs).mono ?_; rintro e w2 ⟨g2, cap2, rfl, hg2, hc2, hb2⟩)
          have B2 : Hid (Ow wr w2) := hb2
          clear hc2 hb2
          go_wp2_with fail
          go_quiet (fail)
          go_wp2_with fail
          go_ret2
          unfold PlPost
          rw [HF.out.1, HF.out.2]
          exact ⟨_, rfl, .inl ⟨rfl, _, _, rfl⟩, O1.out.then (HB.out.then (B2.out.drewN _))⟩
        · match E, hEn, h2, hE, hEm with
          | [Y], _, _, hE, hEm =>
            obtain ⟨y, hy⟩ : ∃ y : ByteArray, y.data.toList = Y := ⟨⟨Y.toArray⟩, rfl⟩
            subst hy
            have hys : y.size ≤ 9000 := by
              have := hEm y.data.toList (by simp)
              rw [ba_len, ba_len] at this
              omega
            have hrun := run_p1 hE
            have HE := Lib.hid hE
            have hno := parts_no_mem 45 _ y.data.toList (by rw [hE]; simp)
            have HNo := Lib.hid hno
            clear hE hEm hno
            cases hd : decimalB y.data.toList with
            | false =>
              have HDy := Lib.hid hd
              have HF := Lib.hid (pl_form HS.out (by rw [HLL.out]; exact HRn.out.bad HX.out (by rw [hrun, hd]; rfl)))
              clear hd hrun
              go_wp2_with fail
              (go_at_call 58; refine (parts_is x 45 45 rfl [y.data.toList] HE.out 1 rfl _ hxs).mono ?_; rintro e w2 ⟨g2, cap2, rfl, hg2, hc2, hb2⟩)
              have B2 : Hid (Ow wr w2) := hb2
              have c0 := hc2 0 _ rfl
              rw [ba_mk] at c0
              clear hc2 hb2
              go_wp2_with fail
              go_quiet (first | (go_at_call_of 59 (Value.string y); exact Calls.quiet_of_same (rdecimal_q y false HDy.out _ hys)))
              go_wp2_with fail
              go_ret2
              unfold PlPost
              rw [HF.out.1, HF.out.2]
              exact ⟨_, rfl, .inl ⟨rfl, _, _, rfl⟩, O1.out.then (HB.out.then (B2.out.drewN _))⟩
            | true =>
              have HDy := Lib.hid hd
              have HNy : Hid (natB y.data.toList = true) := by rw [Hid, Wd.natB_dec HNo.out]; exact hd
              have HRun : Hid (runOf x.data.toList = some (y.data.toList, y.data.toList)) := by rw [Hid, hrun, hd]; rfl
              clear hd hrun
              go_wp2_with fail
              (go_at_call 58; refine (parts_is x 45 45 rfl [y.data.toList] HE.out 1 rfl _ hxs).mono ?_; rintro e w2 ⟨g2, cap2, rfl, hg2, hc2, hb2⟩)
              have B2 : Hid (Ow wr w2) := hb2
              have c0 := hc2 0 _ rfl
              rw [ba_mk] at c0
              clear hc2 hb2
              go_wp2_with fail
              go_quiet (first | (go_at_call_of 59 (Value.string y); exact Calls.quiet_of_same (rdecimal_q y true HDy.out _ hys)))
              have HW3 : Hid (Ow w2 (w2.drewN nq)) := (Ow.refl _).drewN _
              generalize w2.drewN nq = w3 at HW3 ⊢
              have B3 := Lib.hid (B2.out.then HW3.out)
              have hg3 : g2 < w3.heap.size := Nat.lt_of_lt_of_le hg2 HW3.out.size
              have d0 := (HW3.out.cell (p := ⟨g2, 0, none⟩) hg2).trans c0
              by_cases hk0 : k = 0
              · have HNx := Lib.hid (HRn.out.next HX.out HRun.out (.inl hk0) (t := y) rfl)
                have ek : decide ((0 : Int) < (k : Int)) = false := decide_eq_false (by omega)
                have ekn : decide (0 < k) = false := decide_eq_false (by omega)
                clear hk0
                go_wp2_with fail
                go_quiet (fail)
                have HW5 : Hid (Ow w3 (w3.drewN nq)) := (Ow.refl _).drewN _
                generalize w3.drewN nq = w5 at HW5 ⊢
                have B5 := Lib.hid (B3.out.then HW5.out)
                have hs5 : W1.heap.size ≤ w5.heap.size := Nat.le_trans hszr B5.out.size
                have d05 := (HW5.out.cell (p := ⟨g2, 0, none⟩) hg3).trans d0
                go_wp2_with (first
                  | (at_builtin; refine wpList_append_lies _ rfl _ _ 74 rfl W1.heap.size 9 i0 (.string ByteArray.empty) 1 16 Tryz.underlying74 hi0 hz0 hz1 hz2 rfl (by decide) _ k (lastsC rs) rfl (HL7.out.alloc _) ⟨w7.heap.size, 0, none⟩ 1 1 [.string y] rfl rfl (cell_one_new _ _ _) (by simp [Value.oneCell']) (by decide) (by unfold maxLen; omega) (by omega) (by simp; omega) (w7.heap.size + 1) (by simp) ?_; intro g8 cap8 w8 hown8 hgrow8 hat8 hlt8; have HF8 : Hid (w8.ownsRow W1.heap.size 9 1 (.slice (some ⟨g7, 0, none⟩) (k + 1) cap7) (k + 1) (firstsC rs ++ [.string y])) := (HF7.out.alloc _).kept hgrow8 (.inr (fun e => HD7.out e.symm)); have HL8 := Lib.hid hown8; have O8 : Hid (Ow W1 w8) := own_after (HL7.out.alloc _) hgrow8 (O7.out.alloc _) (Nat.le_refl _); have HD8 : Hid (g7 ≠ g8) := dj_second HD7.out hat8 (by omega); clear hown8 hgrow8 hat8)
                  | (at_builtin; refine wpList_append_lies _ rfl _ _ 74 rfl W1.heap.size 9 i0 (.string ByteArray.empty) 1 16 Tryz.underlying74 hi0 hz0 hz1 hz2 rfl (by decide) _ k (firstsC rs) rfl ((own_then HOf.out B5.out).alloc _) ⟨w5.heap.size, 0, none⟩ 1 1 [.string y] rfl rfl (cell_one_new _ _ _) (by simp [Value.oneCell']) (by decide) (by unfold maxLen; omega) (by omega) (by simp; omega) (w5.heap.size + 1) (by simp) ?_; intro g7 cap7 w7 hown7 hgrow7 hat7 hlt7; have HF7 := Lib.hid hown7; have HL7 : Hid (w7.ownsRow W1.heap.size 9 1 _ k (lastsC rs)) := ((own_then HOl.out B5.out).alloc _).kept hgrow7 (dj_ne HDj.out); have O7 : Hid (Ow W1 w7) := own_after ((own_then HOf.out B5.out).alloc _) hgrow7 ((HB.out.then B5.out).alloc _) (Nat.le_refl _); have HD7 := Lib.hid (dj_first HDj.out (fun b hb => Nat.lt_of_lt_of_le (HOl.out.lt b hb).2 (Nat.le_trans B5.out.size (Nat.le_succ _))) hat7); have hz7 : W1.heap.size ≤ w7.heap.size := O7.out.size; clear hown7 hgrow7 hat7))
                go_roundw
                case rel => exact ⟨k + 1, rs ++ [(y.data.toList, y.data.toList)], y, by omega, by go_num, rfl, HNx.out, by omega, by rw [firstsC_snoc]; simp only [ba_mk]; exact HF8.out, by rw [lastsC_snoc]; simp only [ba_mk]; exact HL8.out, (fun b hb e => HD8.out (by simp [Value.ownBlock] at hb e; omega)), O8.out⟩
                case measure => simp [intOf]; omega
              · have ek : (0 : Int) < (k : Int) := by omega
                have hk1 : 0 < k := by omega
                have HLN := Lib.hid (HRn.out.natB hk1)
                clear hk0
                by_cases hfar : valN lt.data.toList + 1 < valN y.data.toList
                · have HNx := Lib.hid (HRn.out.next HX.out HRun.out (.inr hfar) (t := y) rfl)
                  have HFar := Lib.hid hfar
                  clear hfar
                  go_wp2_with fail
                  have hh : Hd w3 g2 y w3 := ⟨Ow.refl _, hg3, d0⟩
                  go_region_held3 (fun w' => Hd w3 g2 y w' ∧ w'.cell? ⟨g2, 0, none⟩ = some (.string y)) (first | assumption | exact (Hd.drew (by assumption)).all | exact (Hd.after (by assumption) (by assumption)).all) (first
                    | (go_at_call 61; refine (next_is lt HLN.out _ hlt9).mono ?_; rintro e w5 ⟨u, rfl, hu1, hu2, hu3, hb5⟩; have HLu : Hid (lessB u.data.toList y.data.toList = true) := (by rw [Hid, Wd.less_val hu1 HNy.out, hu2]; exact decide_eq_true HFar.out); clear hu1 hu2)
                    | (go_at_call 60; refine (less_is u y true HLu.out _).mono ?_; rintro e w6 ⟨rfl, rfl⟩))
                  have HW5 : Hid (Ow w3 w5) := Hd.fin (by assumption)
                  have B5 := Lib.hid (B3.out.then HW5.out)
                  have hs5 : W1.heap.size ≤ w5.heap.size := Nat.le_trans hszr B5.out.size
                  have d05 := (HW5.out.cell (p := ⟨g2, 0, none⟩) hg3).trans d0
                  go_wp2_with (first
                    | (at_builtin; refine wpList_append_lies _ rfl _ _ 74 rfl W1.heap.size 9 i0 (.string ByteArray.empty) 1 16 Tryz.underlying74 hi0 hz0 hz1 hz2 rfl (by decide) _ k (lastsC rs) rfl (HL7.out.alloc _) ⟨w7.heap.size, 0, none⟩ 1 1 [.string y] rfl rfl (cell_one_new _ _ _) (by simp [Value.oneCell']) (by decide) (by unfold maxLen; omega) (by omega) (by simp; omega) (w7.heap.size + 1) (by simp) ?_; intro g8 cap8 w8 hown8 hgrow8 hat8 hlt8; have HF8 : Hid (w8.ownsRow W1.heap.size 9 1 (.slice (some ⟨g7, 0, none⟩) (k + 1) cap7) (k + 1) (firstsC rs ++ [.string y])) := (HF7.out.alloc _).kept hgrow8 (.inr (fun e => HD7.out e.symm)); have HL8 := Lib.hid hown8; have O8 : Hid (Ow W1 w8) := own_after (HL7.out.alloc _) hgrow8 (O7.out.alloc _) (Nat.le_refl _); have HD8 : Hid (g7 ≠ g8) := dj_second HD7.out hat8 (by omega); clear hown8 hgrow8 hat8)
                    | (at_builtin; refine wpList_append_lies _ rfl _ _ 74 rfl W1.heap.size 9 i0 (.string ByteArray.empty) 1 16 Tryz.underlying74 hi0 hz0 hz1 hz2 rfl (by decide) _ k (firstsC rs) rfl ((own_then HOf.out B5.out).alloc _) ⟨w5.heap.size, 0, none⟩ 1 1 [.string y] rfl rfl (cell_one_new _ _ _) (by simp [Value.oneCell']) (by decide) (by unfold maxLen; omega) (by omega) (by simp; omega) (w5.heap.size + 1) (by simp) ?_; intro g7 cap7 w7 hown7 hgrow7 hat7 hlt7; have HF7 := Lib.hid hown7; have HL7 : Hid (w7.ownsRow W1.heap.size 9 1 _ k (lastsC rs)) := ((own_then HOl.out B5.out).alloc _).kept hgrow7 (dj_ne HDj.out); have O7 : Hid (Ow W1 w7) := own_after ((own_then HOf.out B5.out).alloc _) hgrow7 ((HB.out.then B5.out).alloc _) (Nat.le_refl _); have HD7 := Lib.hid (dj_first HDj.out (fun b hb => Nat.lt_of_lt_of_le (HOl.out.lt b hb).2 (Nat.le_trans B5.out.size (Nat.le_succ _))) hat7); have hz7 : W1.heap.size ≤ w7.heap.size := O7.out.size; clear hown7 hgrow7 hat7))
                  go_roundw
                  case rel => exact ⟨k + 1, rs ++ [(y.data.toList, y.data.toList)], y, by omega, by go_num, rfl, HNx.out, by omega, by rw [firstsC_snoc]; simp only [ba_mk]; exact HF8.out, by rw [lastsC_snoc]; simp only [ba_mk]; exact HL8.out, (fun b hb e => HD8.out (by simp [Value.ownBlock] at hb e; omega)), O8.out⟩
                  case measure => simp [intOf]; omega
                · have HF := Lib.hid (pl_form HS.out (by rw [HLL.out]; exact HRn.out.near HX.out HRun.out hk1 hfar))
                  have HFar := Lib.hid hfar
                  clear hfar
                  go_wp2_with fail
                  have hh : Hd w3 g2 y w3 := ⟨Ow.refl _, hg3, d0⟩
                  go_region_held3 (fun w' => Hd w3 g2 y w' ∧ w'.cell? ⟨g2, 0, none⟩ = some (.string y)) (first | assumption | exact (Hd.drew (by assumption)).all | exact (Hd.after (by assumption) (by assumption)).all) (first
                    | (go_at_call 61; refine (next_is lt HLN.out _ hlt9).mono ?_; rintro e w5 ⟨u, rfl, hu1, hu2, hu3, hb5⟩; have HLu : Hid (lessB u.data.toList y.data.toList = false) := (by rw [Hid, Wd.less_val hu1 HNy.out, hu2]; exact decide_eq_false HFar.out); clear hu1 hu2)
                    | (go_at_call 60; refine (less_is u y false HLu.out _).mono ?_; rintro e w6 ⟨rfl, rfl⟩))
                  have HW5 : Hid (Ow w3 w5) := Hd.fin (by assumption)
                  go_wp2_with fail
                  go_ret2
                  unfold PlPost
                  rw [HF.out.1, HF.out.2]
                  exact ⟨_, rfl, .inl ⟨rfl, _, _, rfl⟩, O1.out.then (HB.out.then (B3.out.then HW5.out))⟩
          | [Y, Z], _, _, hE, hEm =>
            obtain ⟨y, hy⟩ : ∃ y : ByteArray, y.data.toList = Y := ⟨⟨Y.toArray⟩, rfl⟩
            obtain ⟨z, hz⟩ : ∃ z : ByteArray, z.data.toList = Z := ⟨⟨Z.toArray⟩, rfl⟩
            subst hy hz
            have hys : y.size ≤ 9000 := by
              have := hEm y.data.toList (by simp)
              rw [ba_len, ba_len] at this
              omega
            have hzs : z.size ≤ 9000 := by
              have := hEm z.data.toList (by simp)
              rw [ba_len, ba_len] at this
              omega
            have hrun := run_p2 hE
            have HE := Lib.hid hE
            have hno := parts_no_mem 45 _ y.data.toList (by rw [hE]; simp)
            have HNo := Lib.hid hno
            clear hE hEm hno
            have h22 : ¬ (2 : Int) < 2 := by omega
            cases hd : decimalB y.data.toList with
            | false =>
              have HDy := Lib.hid hd
              have HF := Lib.hid (pl_form HS.out (by rw [HLL.out]; exact HRn.out.bad HX.out (by rw [hrun, if_neg (by rw [hd]; rintro ⟨h, _⟩; cases h)])))
              clear hd hrun
              go_wp2_with fail
              (go_at_call 58; refine (parts_is x 45 45 rfl [y.data.toList, z.data.toList] HE.out 2 rfl _ hxs).mono ?_; rintro e w2 ⟨g2, cap2, rfl, hg2, hc2, hb2⟩)
              have B2 : Hid (Ow wr w2) := hb2
              have c0 := hc2 0 _ rfl
              have c1 := hc2 1 _ rfl
              rw [ba_mk] at c0 c1
              clear hc2 hb2 h22
              go_wp2_with fail
              go_quiet (first | (go_at_call_of 59 (Value.string y); exact Calls.quiet_of_same (rdecimal_q y false HDy.out _ hys)))
              go_wp2_with fail
              go_ret2
              unfold PlPost
              rw [HF.out.1, HF.out.2]
              exact ⟨_, rfl, .inl ⟨rfl, _, _, rfl⟩, O1.out.then (HB.out.then (B2.out.drewN _))⟩
            | true =>
              have HDy := Lib.hid hd
              have HNy : Hid (natB y.data.toList = true) := by rw [Hid, Wd.natB_dec HNo.out]; exact hd
              cases he : decimalB z.data.toList with
              | false =>
                have HDz := Lib.hid he
                have HF := Lib.hid (pl_form HS.out (by rw [HLL.out]; exact HRn.out.bad HX.out (by rw [hrun, if_neg (by rw [he]; rintro ⟨_, h, _⟩; cases h)])))
                clear hd he hrun
                go_wp2_with fail
                (go_at_call 58; refine (parts_is x 45 45 rfl [y.data.toList, z.data.toList] HE.out 2 rfl _ hxs).mono ?_; rintro e w2 ⟨g2, cap2, rfl, hg2, hc2, hb2⟩)
                have B2 : Hid (Ow wr w2) := hb2
                have c0 := hc2 0 _ rfl
                have c1 := hc2 1 _ rfl
                rw [ba_mk] at c0 c1
                clear hc2 hb2 h22
                go_wp2_with fail
                go_quiet (first | (go_at_call_of 59 (Value.string y); exact Calls.quiet_of_same (rdecimal_q y true HDy.out _ hys)) | (go_at_call_of 59 (Value.string z); exact Calls.quiet_of_same (rdecimal_q z false HDz.out _ hzs)))
                go_wp2_with fail
                go_ret2
                unfold PlPost
                rw [HF.out.1, HF.out.2]
                exact ⟨_, rfl, .inl ⟨rfl, _, _, rfl⟩, O1.out.then (HB.out.then (B2.out.drewN _))⟩
              | true =>
                have HDz := Lib.hid he
                cases hls : lessB y.data.toList z.data.toList with
                | false =>
                  have HLs := Lib.hid hls
                  have HF := Lib.hid (pl_form HS.out (by rw [HLL.out]; exact HRn.out.bad HX.out (by rw [hrun, if_neg (by rw [hls]; rintro ⟨_, _, h⟩; cases h)])))
                  clear hd he hls hrun
                  go_wp2_with fail
                  (go_at_call 58; refine (parts_is x 45 45 rfl [y.data.toList, z.data.toList] HE.out 2 rfl _ hxs).mono ?_; rintro e w2 ⟨g2, cap2, rfl, hg2, hc2, hb2⟩)
                  have B2 : Hid (Ow wr w2) := hb2
                  have c0 := hc2 0 _ rfl
                  have c1 := hc2 1 _ rfl
                  rw [ba_mk] at c0 c1
                  clear hc2 hb2 h22
                  go_wp2_with fail
                  go_quiet (first | (go_at_call_of 59 (Value.string y); exact Calls.quiet_of_same (rdecimal_q y true HDy.out _ hys)) | (go_at_call_of 59 (Value.string z); exact Calls.quiet_of_same (rdecimal_q z true HDz.out _ hzs)) | (go_at_call 60; exact Calls.quiet_of_same (less_q y z false HLs.out _)))
                  go_wp2_with fail
                  go_ret2
                  unfold PlPost
                  rw [HF.out.1, HF.out.2]
                  exact ⟨_, rfl, .inl ⟨rfl, _, _, rfl⟩, O1.out.then (HB.out.then (B2.out.drewN _))⟩
                | true =>
                  have HLs := Lib.hid hls
                  have HRun : Hid (runOf x.data.toList = some (y.data.toList, z.data.toList)) := by rw [Hid, hrun, if_pos ⟨hd, he, hls⟩]
                  clear hd he hls hrun
                  go_wp2_with fail
                  (go_at_call 58; refine (parts_is x 45 45 rfl [y.data.toList, z.data.toList] HE.out 2 rfl _ hxs).mono ?_; rintro e w2 ⟨g2, cap2, rfl, hg2, hc2, hb2⟩)
                  have B2 : Hid (Ow wr w2) := hb2
                  have c0 := hc2 0 _ rfl
                  have c1 := hc2 1 _ rfl
                  rw [ba_mk] at c0 c1
                  clear hc2 hb2 h22
                  go_wp2_with fail
                  go_quiet (first | (go_at_call_of 59 (Value.string y); exact Calls.quiet_of_same (rdecimal_q y true HDy.out _ hys)) | (go_at_call_of 59 (Value.string z); exact Calls.quiet_of_same (rdecimal_q z true HDz.out _ hzs)) | (go_at_call 60; exact Calls.quiet_of_same (less_q y z true HLs.out _)))
                  have HW3 : Hid (Ow w2 (w2.drewN nq)) := (Ow.refl _).drewN _
                  generalize w2.drewN nq = w3 at HW3 ⊢
                  have B3 := Lib.hid (B2.out.then HW3.out)
                  have hg3 : g2 < w3.heap.size := Nat.lt_of_lt_of_le hg2 HW3.out.size
                  have d0 := (HW3.out.cell (p := ⟨g2, 0, none⟩) hg2).trans c0
                  have d1 := (HW3.out.cell (p := ⟨g2, 1, none⟩) hg2).trans c1
                  by_cases hk0 : k = 0
                  · have HNx := Lib.hid (HRn.out.next HX.out HRun.out (.inl hk0) (t := z) rfl)
                    have ek : decide ((0 : Int) < (k : Int)) = false := decide_eq_false (by omega)
                    have ekn : decide (0 < k) = false := decide_eq_false (by omega)
                    clear hk0
                    go_wp2_with fail
                    go_quiet (fail)
                    have HW5 : Hid (Ow w3 (w3.drewN nq)) := (Ow.refl _).drewN _
                    generalize w3.drewN nq = w5 at HW5 ⊢
                    have B5 := Lib.hid (B3.out.then HW5.out)
                    have hs5 : W1.heap.size ≤ w5.heap.size := Nat.le_trans hszr B5.out.size
                    have d05 := (HW5.out.cell (p := ⟨g2, 0, none⟩) hg3).trans d0
                    have dl5 := (HW5.out.cell (p := ⟨g2, 1, none⟩) hg3).trans d1
                    go_wp2_with (first
                      | (at_builtin; refine wpList_append_lies _ rfl _ _ 74 rfl W1.heap.size 9 i0 (.string ByteArray.empty) 1 16 Tryz.underlying74 hi0 hz0 hz1 hz2 rfl (by decide) _ k (lastsC rs) rfl (HL7.out.alloc _) ⟨w7.heap.size, 0, none⟩ 1 1 [.string z] rfl rfl (cell_one_new _ _ _) (by simp [Value.oneCell']) (by decide) (by unfold maxLen; omega) (by omega) (by simp; omega) (w7.heap.size + 1) (by simp) ?_; intro g8 cap8 w8 hown8 hgrow8 hat8 hlt8; have HF8 : Hid (w8.ownsRow W1.heap.size 9 1 (.slice (some ⟨g7, 0, none⟩) (k + 1) cap7) (k + 1) (firstsC rs ++ [.string y])) := (HF7.out.alloc _).kept hgrow8 (.inr (fun e => HD7.out e.symm)); have HL8 := Lib.hid hown8; have O8 : Hid (Ow W1 w8) := own_after (HL7.out.alloc _) hgrow8 (O7.out.alloc _) (Nat.le_refl _); have HD8 : Hid (g7 ≠ g8) := dj_second HD7.out hat8 (by omega); clear hown8 hgrow8 hat8)
                      | (at_builtin; refine wpList_append_lies _ rfl _ _ 74 rfl W1.heap.size 9 i0 (.string ByteArray.empty) 1 16 Tryz.underlying74 hi0 hz0 hz1 hz2 rfl (by decide) _ k (firstsC rs) rfl ((own_then HOf.out B5.out).alloc _) ⟨w5.heap.size, 0, none⟩ 1 1 [.string y] rfl rfl (cell_one_new _ _ _) (by simp [Value.oneCell']) (by decide) (by unfold maxLen; omega) (by omega) (by simp; omega) (w5.heap.size + 1) (by simp) ?_; intro g7 cap7 w7 hown7 hgrow7 hat7 hlt7; have HF7 := Lib.hid hown7; have HL7 : Hid (w7.ownsRow W1.heap.size 9 1 _ k (lastsC rs)) := ((own_then HOl.out B5.out).alloc _).kept hgrow7 (dj_ne HDj.out); have O7 : Hid (Ow W1 w7) := own_after ((own_then HOf.out B5.out).alloc _) hgrow7 ((HB.out.then B5.out).alloc _) (Nat.le_refl _); have HD7 := Lib.hid (dj_first HDj.out (fun b hb => Nat.lt_of_lt_of_le (HOl.out.lt b hb).2 (Nat.le_trans B5.out.size (Nat.le_succ _))) hat7); have hz7 : W1.heap.size ≤ w7.heap.size := O7.out.size; clear hown7 hgrow7 hat7))
                    go_roundw
                    case rel => exact ⟨k + 1, rs ++ [(y.data.toList, z.data.toList)], z, by omega, by go_num, rfl, HNx.out, by omega, by rw [firstsC_snoc]; simp only [ba_mk]; exact HF8.out, by rw [lastsC_snoc]; simp only [ba_mk]; exact HL8.out, (fun b hb e => HD8.out (by simp [Value.ownBlock] at hb e; omega)), O8.out⟩
                    case measure => simp [intOf]; omega
                  · have ek : (0 : Int) < (k : Int) := by omega
                    have hk1 : 0 < k := by omega
                    have HLN := Lib.hid (HRn.out.natB hk1)
                    clear hk0
                    by_cases hfar : valN lt.data.toList + 1 < valN y.data.toList
                    · have HNx := Lib.hid (HRn.out.next HX.out HRun.out (.inr hfar) (t := z) rfl)
                      have HFar := Lib.hid hfar
                      clear hfar
                      go_wp2_with fail
                      have hh : Hd w3 g2 y w3 := ⟨Ow.refl _, hg3, d0⟩
                      go_region_held3 (fun w' => Hd w3 g2 y w' ∧ w'.cell? ⟨g2, 0, none⟩ = some (.string y)) (first | assumption | exact (Hd.drew (by assumption)).all | exact (Hd.after (by assumption) (by assumption)).all) (first
                        | (go_at_call 61; refine (next_is lt HLN.out _ hlt9).mono ?_; rintro e w5 ⟨u, rfl, hu1, hu2, hu3, hb5⟩; have HLu : Hid (lessB u.data.toList y.data.toList = true) := (by rw [Hid, Wd.less_val hu1 HNy.out, hu2]; exact decide_eq_true HFar.out); clear hu1 hu2)
                        | (go_at_call 60; refine (less_is u y true HLu.out _).mono ?_; rintro e w6 ⟨rfl, rfl⟩))
                      have HW5 : Hid (Ow w3 w5) := Hd.fin (by assumption)
                      have B5 := Lib.hid (B3.out.then HW5.out)
                      have hs5 : W1.heap.size ≤ w5.heap.size := Nat.le_trans hszr B5.out.size
                      have d05 := (HW5.out.cell (p := ⟨g2, 0, none⟩) hg3).trans d0
                      have dl5 := (HW5.out.cell (p := ⟨g2, 1, none⟩) hg3).trans d1
                      go_wp2_with (first
                        | (at_builtin; refine wpList_append_lies _ rfl _ _ 74 rfl W1.heap.size 9 i0 (.string ByteArray.empty) 1 16 Tryz.underlying74 hi0 hz0 hz1 hz2 rfl (by decide) _ k (lastsC rs) rfl (HL7.out.alloc _) ⟨w7.heap.size, 0, none⟩ 1 1 [.string z] rfl rfl (cell_one_new _ _ _) (by simp [Value.oneCell']) (by decide) (by unfold maxLen; omega) (by omega) (by simp; omega) (w7.heap.size + 1) (by simp) ?_; intro g8 cap8 w8 hown8 hgrow8 hat8 hlt8; have HF8 : Hid (w8.ownsRow W1.heap.size 9 1 (.slice (some ⟨g7, 0, none⟩) (k + 1) cap7) (k + 1) (firstsC rs ++ [.string y])) := (HF7.out.alloc _).kept hgrow8 (.inr (fun e => HD7.out e.symm)); have HL8 := Lib.hid hown8; have O8 : Hid (Ow W1 w8) := own_after (HL7.out.alloc _) hgrow8 (O7.out.alloc _) (Nat.le_refl _); have HD8 : Hid (g7 ≠ g8) := dj_second HD7.out hat8 (by omega); clear hown8 hgrow8 hat8)
                        | (at_builtin; refine wpList_append_lies _ rfl _ _ 74 rfl W1.heap.size 9 i0 (.string ByteArray.empty) 1 16 Tryz.underlying74 hi0 hz0 hz1 hz2 rfl (by decide) _ k (firstsC rs) rfl ((own_then HOf.out B5.out).alloc _) ⟨w5.heap.size, 0, none⟩ 1 1 [.string y] rfl rfl (cell_one_new _ _ _) (by simp [Value.oneCell']) (by decide) (by unfold maxLen; omega) (by omega) (by simp; omega) (w5.heap.size + 1) (by simp) ?_; intro g7 cap7 w7 hown7 hgrow7 hat7 hlt7; have HF7 := Lib.hid hown7; have HL7 : Hid (w7.ownsRow W1.heap.size 9 1 _ k (lastsC rs)) := ((own_then HOl.out B5.out).alloc _).kept hgrow7 (dj_ne HDj.out); have O7 : Hid (Ow W1 w7) := own_after ((own_then HOf.out B5.out).alloc _) hgrow7 ((HB.out.then B5.out).alloc _) (Nat.le_refl _); have HD7 := Lib.hid (dj_first HDj.out (fun b hb => Nat.lt_of_lt_of_le (HOl.out.lt b hb).2 (Nat.le_trans B5.out.size (Nat.le_succ _))) hat7); have hz7 : W1.heap.size ≤ w7.heap.size := O7.out.size; clear hown7 hgrow7 hat7))
                      go_roundw
                      case rel => exact ⟨k + 1, rs ++ [(y.data.toList, z.data.toList)], z, by omega, by go_num, rfl, HNx.out, by omega, by rw [firstsC_snoc]; simp only [ba_mk]; exact HF8.out, by rw [lastsC_snoc]; simp only [ba_mk]; exact HL8.out, (fun b hb e => HD8.out (by simp [Value.ownBlock] at hb e; omega)), O8.out⟩
                      case measure => simp [intOf]; omega
                    · have HF := Lib.hid (pl_form HS.out (by rw [HLL.out]; exact HRn.out.near HX.out HRun.out hk1 hfar))
                      have HFar := Lib.hid hfar
                      clear hfar
                      go_wp2_with fail
                      have hh : Hd w3 g2 y w3 := ⟨Ow.refl _, hg3, d0⟩
                      go_region_held3 (fun w' => Hd w3 g2 y w' ∧ w'.cell? ⟨g2, 0, none⟩ = some (.string y)) (first | assumption | exact (Hd.drew (by assumption)).all | exact (Hd.after (by assumption) (by assumption)).all) (first
                        | (go_at_call 61; refine (next_is lt HLN.out _ hlt9).mono ?_; rintro e w5 ⟨u, rfl, hu1, hu2, hu3, hb5⟩; have HLu : Hid (lessB u.data.toList y.data.toList = false) := (by rw [Hid, Wd.less_val hu1 HNy.out, hu2]; exact decide_eq_false HFar.out); clear hu1 hu2)
                        | (go_at_call 60; refine (less_is u y false HLu.out _).mono ?_; rintro e w6 ⟨rfl, rfl⟩))
                      have HW5 : Hid (Ow w3 w5) := Hd.fin (by assumption)
                      go_wp2_with fail
                      go_ret2
                      unfold PlPost
                      rw [HF.out.1, HF.out.2]
                      exact ⟨_, rfl, .inl ⟨rfl, _, _, rfl⟩, O1.out.then (HB.out.then (B3.out.then HW5.out))⟩
          | _ :: _ :: _ :: _, _, h2, _, _ => exact absurd (by simp) h2
      · have el : decide (k < n) = false := by simpa using hlt
        obtain rfl : k = n := by omega
        have HDn := Lib.hid (HRn.out.done (by rw [HN.out]; exact Nat.le_refl _))
        have HLN := Lib.hid (HRn.out.natB hn0)
        have HLV := Lib.hid (HRn.out.lastV hn0)
        have HRl := Lib.hid HRn.out.len
        have HGd := Lib.hid (Wd.runsF_good _ _ _ HDn.out)
        have hEnd : Ends 1000000000 1000000000 := ⟨by decide, by decide⟩
        have HEnd := Lib.hid hEnd
        have hEz : Ends 0 1000000000 := ⟨by decide, by decide⟩
        have HEz := Lib.hid hEz
        obtain ⟨u9, hu9⟩ : ∃ t : ByteArray, t.data.toList = Lib.itoa 1000000000 := ⟨⟨(Lib.itoa 1000000000).toArray⟩, rfl⟩
        have hls := Wd.less_val (Wd.itoa_natB 1000000000).1 HLN.out
        rw [(Wd.itoa_natB 1000000000).2] at hls
        have HLs9 : Hid (lessB u9.data.toList lt.data.toList = decide (1000000000 < valN lt.data.toList)) := by rw [Hid, hu9]; exact hls
        have HU9 := Lib.hid hu9
        clear hls hu9 hEnd hEz hlt hk
        rcases Joins.ownsRow_forms HOf.out with ⟨rfl, h0⟩ | ⟨gF, capF, rfl⟩
        · exact absurd h0 (by omega)
        · rcases Joins.ownsRow_forms HOl.out with ⟨rfl, h0⟩ | ⟨gL, capL, rfl⟩
          · exact absurd h0 (by omega)
          · by_cases hr9 : 1000000000 < valN lt.data.toList
            · have HF := Lib.hid (pl_range HS.out (by rw [HLL.out]; exact HDn.out) (by rw [HLV.out]; exact hr9))
              have HL9 : Hid (lessB u9.data.toList lt.data.toList = true) := by rw [Hid, HLs9.out]; exact decide_eq_true hr9
              clear hr9
              go_wp2_with fail
              (go_at_call 56; refine (rdig_is 1000000000 u9 HU9.out _ HEnd.out).mono ?_; rintro e w2 ⟨rfl, hb2⟩)
              have B2 : Hid (Ow wr w2) := hb2
              clear hb2
              go_wp2_with fail
              (go_at_call 60; refine (less_is u9 lt true HL9.out _).mono ?_; rintro e w3 ⟨rfl, rfl⟩)
              go_wp2_with fail
              go_ret2
              unfold PlPost
              rw [HF.out.1, HF.out.2]
              exact ⟨_, rfl, .inl ⟨rfl, _, _, rfl⟩, O1.out.then (HB.out.then B2.out)⟩
            · have HR9 : Hid (¬ 1000000000 < lastV rs) := by rw [Hid, HLV.out]; exact hr9
              have HL9 : Hid (lessB u9.data.toList lt.data.toList = false) := by rw [Hid, HLs9.out]; exact decide_eq_false hr9
              clear hr9
              go_wp2_with fail
              (go_at_call 56; refine (rdig_is 1000000000 u9 HU9.out _ HEnd.out).mono ?_; rintro e w2 ⟨rfl, hb2⟩)
              have B2 : Hid (Ow wr w2) := hb2
              clear hb2
              go_wp2_with fail
              (go_at_call 60; refine (less_is u9 lt false HL9.out _).mono ?_; rintro e w3 ⟨rfl, rfl⟩)
              have HFc := Lib.hid (own_then HOf.out B2.out)
              have HLc := Lib.hid (own_then HOl.out B2.out)
              have hgF : gF < w2.heap.size := (HFc.out.lt gF rfl).2
              have hgL : gL < w2.heap.size := (HLc.out.lt gL rfl).2
              have HE : Hid (∀ (j : Nat) (p : Pr), rs[j]? = some p → w2.cell? ⟨gF, j, none⟩ = some (.string ⟨p.1.toArray⟩) ∧ w2.cell? ⟨gL, j, none⟩ = some (.string ⟨p.2.toArray⟩)) := by
                intro j p hp
                have hj := (List.getElem?_eq_some_iff.1 hp).1
                rw [HRl.out] at hj
                rw [HFc.out.cellAt j (by omega), HLc.out.cellAt j (by omega), firstsC, lastsC, List.getElem?_map, List.getElem?_map, hp]
                exact ⟨rfl, rfl⟩
              have OW := Lib.hid (O1.out.then (HB.out.then B2.out))
              go_wp2_with fail
              go_loopw [10, 11, 12, 13, 14, 15, 16] (fun l idx _ _ _ _ _ wq => ∃ (j : Nat) (sa : Option Addr) (sc : Nat) (xs : List Int), j ≤ k ∧ idx = .int .i64 j ∧ l = .slice sa xs.length sc ∧ xs = expL (rs.take j) ∧ xs.length ≤ 500 ∧ wq.ownsRow w2.heap.size 3 1 (.slice sa xs.length sc) xs.length (xs.map (Value.int .i64)) ∧ Ow w2 wq) (fun _ idx _ _ _ _ _ _ => k - (intOf idx).toNat)
              case atStart => exact ⟨0, none, 0, [], by omega, rfl, rfl, rfl, by simp, World.ownsRow_nil _ _ _ _, Ow.refl _⟩
              case round =>
                obtain ⟨j, sa, sc, xs, hjk, rfl, rfl, hxs, hx5, hownq, hbq⟩ := hrel
                have HXs := Lib.hid hxs
                have HOq := Lib.hid hownq
                have HBq := Lib.hid hbq
                have hszq : w2.heap.size ≤ wr.heap.size := hbq.size
                clear hxs hownq hbq
                by_cases hj : j < k
                · obtain ⟨⟨pa, pb⟩, hp⟩ : ∃ p, rs[j]? = some p := ⟨rs[j]'(by rw [HRl.out]; exact hj), List.getElem?_eq_getElem (by rw [HRl.out]; exact hj)⟩
                  have c0 := (HBq.out.cell (p := ⟨gF, j, none⟩) hgF).trans (HE.out j _ hp).1
                  have c1 := (HBq.out.cell (p := ⟨gL, j, none⟩) hgL).trans (HE.out j _ hp).2
                  simp only at c0 c1
                  obtain ⟨a, ha⟩ : ∃ a : ByteArray, a = ⟨pa.toArray⟩ := ⟨_, rfl⟩
                  obtain ⟨b, hb⟩ : ∃ b : ByteArray, b = ⟨pb.toArray⟩ := ⟨_, rfl⟩
                  have HA : Hid (a.data.toList = pa) := by rw [ha]; rfl
                  have HBb : Hid (b.data.toList = pb) := by rw [hb]; rfl
                  rw [← ha] at c0
                  rw [← hb] at c1
                  obtain ⟨g1, g2, g3, g4⟩ := HGd.out.2 _ (List.mem_of_getElem? hp)
                  simp only at g1 g2 g3 g4
                  obtain ⟨na, hna⟩ : ∃ m, valN pa = m := ⟨_, rfl⟩
                  obtain ⟨nb, hnb2⟩ : ∃ m, valN pb = m := ⟨_, rfl⟩
                  rw [hna, hnb2] at g3
                  have hb9 : nb ≤ 1000000000 := by have := HR9.out; omega
                  have ha9 : na ≤ 1000000000 := by omega
                  have hda := Wd.natB_val (l := a.data.toList) (by rw [HA.out]; exact g1)
                  have hdb := Wd.natB_val (l := b.data.toList) (by rw [HBb.out]; exact g2)
                  have hia := int_in (lo := 0) (hi := 1000000000) hda.1 (by rw [hda.2.1, HA.out, hna]; omega)
                  have hib := int_in (lo := 0) (hi := 1000000000) hdb.1 (by rw [hdb.2.1, HBb.out, hnb2]; omega)
                  rw [hda.2.1, HA.out, hna] at hia
                  rw [hdb.2.1, HBb.out, hnb2] at hib
                  have HIa : Hid (intV a.data.toList 0 1000000000 = (na : Int) ∧ intE a.data.toList 0 1000000000 = 0) := by rw [Hid, HA.out]; exact hia
                  have HIb : Hid (intV b.data.toList 0 1000000000 = (nb : Int) ∧ intE b.data.toList 0 1000000000 = 0) := by rw [Hid, HBb.out]; exact hib
                  have has : a.size ≤ 9000 := by have := short_val g1 (by omega); rw [← HA.out, ba_len] at this; omega
                  have hbs : b.size ≤ 9000 := by have := short_val g2 (by omega); rw [← HBb.out, ba_len] at this; omega
                  have HCn : Hid (cntP (pa, pb) = nb - na + 1) := by rw [Hid, cntP, hna, hnb2]
                  have HP := Lib.hid hp
                  have HVa := Lib.hid hna
                  have elj : decide (j < k) = true := by simpa using hj
                  have elen : (xs.length : Int) ≤ 500 := by omega
                  clear ha hb hp g1 g2 g4 hna hnb2 hda hdb hia hib
                  go_wp2_with fail
                  (go_at_call 57; refine (rint_is a 0 1000000000 na 0 HIa.out.1 HIa.out.2 _ has HEz.out).mono ?_; rintro e w5 ⟨rfl, hb5⟩)
                  have c15 := (hb5.cell (p := ⟨gL, j, none⟩) (Nat.lt_of_lt_of_le hgL hszq)).trans c1
                  have B5 : Hid (Ow wr w5) := hb5
                  clear hb5
                  go_wp2_with fail
                  (go_at_call 57; refine (rint_is b 0 1000000000 nb 0 HIb.out.1 HIb.out.2 _ hbs HEz.out).mono ?_; rintro e w6 ⟨rfl, hb6⟩)
                  have B6 := Lib.hid (B5.out.then hb6)
                  clear hb6 c15
                  have HO6 := Lib.hid (own_then HOq.out B6.out)
                  have HB6 := Lib.hid (HBq.out.then B6.out)
                  go_wp2_with fail
                  go_loopw [10, 16] (fun l m wz => ∃ (i : Nat) (sb : Option Addr) (sd : Nat), i ≤ nb - na + 1 ∧ m = .int .i64 ((na + i : Nat) : Int) ∧ l = .slice sb (xs.length + i) sd ∧ xs.length + i ≤ 500 ∧ wz.ownsRow w2.heap.size 3 1 (.slice sb (xs.length + i) sd) (xs.length + i) ((xs ++ (expP (pa, pb)).take i).map (Value.int .i64)) ∧ Ow w2 wz) (fun _ m _ => (nb + 1) - (intOf m).toNat)
                  case atStart => exact ⟨0, sa, sc, by omega, rfl, rfl, hx5, by simpa using HO6.out, HB6.out⟩
                  case round =>
                    obtain ⟨i, sb, sd, hi, rfl, rfl, hsum, hownz, hbz⟩ := hrel
                    have HOz := Lib.hid hownz
                    have HBz := Lib.hid hbz
                    have hszz : w2.heap.size ≤ wr.heap.size := hbz.size
                    clear hownz hbz
                    by_cases hi2 : i < nb - na + 1
                    · have eli : ((na + i : Nat) : Int) ≤ (nb : Int) := by omega
                      by_cases h5 : xs.length + i = 500
                      · have HF := Lib.hid (pl_long HS.out (by rw [HLL.out]; exact HDn.out) HR9.out (by
                          rw [exp_take HP.out, List.length_append, List.length_append, Wd.expP_len, HCn.out, ← HXs.out]; omega))
                        have e5 : (((xs.length + i : Nat) : Int) == 500) = true := by rw [beq_iff_eq]; omega
                        clear h5
                        go_wp2_with fail
                        go_ret2
                        unfold PlPost
                        rw [HF.out.1, HF.out.2]
                        exact ⟨_, rfl, .inl ⟨rfl, _, _, rfl⟩, OW.out.then HBz.out⟩
                      · have e5 : (((xs.length + i : Nat) : Int) == 500) = false := by rw [beq_eq_false_iff_ne]; omega
                        have HTk := Lib.hid (exp_take_snoc (p := (pa, pb)) (j := i) (by rw [HCn.out]; exact hi2))
                        have HMv : Hid (valN (pa, pb).1 = na) := HVa.out
                        have hsum2 : xs.length + (i + 1) ≤ 500 := by omega
                        clear h5
                        go_wp2_with (at_builtin; refine wpList_append_own _ rfl _ _ 31 rfl w2.heap.size 3 j0 (.int .i64 0) 1 8 Tryz.underlying31 hj0 hy0 hy1 hy2 rfl (by decide) _ (xs.length + i) ((xs ++ (expP (pa, pb)).take i).map (Value.int .i64)) rfl (HOz.out.alloc _) ⟨wr.heap.size, 0, none⟩ 1 1 [.int .i64 ((na + i : Nat) : Int)] rfl rfl (cell_one_new _ _ _) (by simp [Value.oneCell']) (by unfold maxLen; omega) (by omega) (by simp; omega) ?_; intro v9 w9 hown9 hgrow9 hnil9; obtain ⟨sb', sd', hv9⟩ := forms hown9)
                        go_roundw
                        case rel => exact ⟨i + 1, sb', sd', by omega, by go_num, rfl, hsum2, by rw [hv9] at hown9; rw [HTk.out, HMv.out]; simpa [Nat.add_assoc] using hown9, own_after (HOz.out.alloc _) hgrow9 (HBz.out.alloc _) (Nat.le_refl _)⟩
                        case measure => simp [intOf]; omega
                    · have eli : ¬ ((na + i : Nat) : Int) ≤ (nb : Int) := by omega
                      obtain rfl : i = nb - na + 1 := by omega
                      have HTk : Hid (xs ++ (expP (pa, pb)).take (nb - na + 1) = expL (rs.take (j + 1))) := by
                        rw [Hid, exp_next HP.out, HXs.out, List.take_of_length_le (l := expP (pa, pb)) (by rw [Wd.expP_len, HCn.out]; exact Nat.le_refl _)]
                      have HLe : Hid ((expL (rs.take (j + 1))).length = xs.length + (nb - na + 1)) := by
                        rw [Hid, ← HTk.out, List.length_append, List.length_take, Wd.expP_len, HCn.out]; omega
                      clear hi hi2
                      go_wp2_with fail
                      go_roundw
                      case rel => exact ⟨j + 1, sb, sd, expL (rs.take (j + 1)), by omega, by go_num, by rw [HLe.out], rfl, by rw [HLe.out]; exact hsum, by rw [HLe.out, ← HTk.out]; exact HOz.out, HBz.out⟩
                      case measure => simp [intOf]; omega
                · have elj : decide (j < k) = false := by simpa using hj
                  have HXe : Hid (xs = expL rs) := by rw [Hid, HXs.out, List.take_of_length_le (by rw [HRl.out]; omega)]
                  have HF := Lib.hid (pl_ok HS.out (by rw [HLL.out]; exact HDn.out) HR9.out (by rw [← HXe.out]; omega))
                  clear hj
                  go_wp2_with fail
                  go_ret2
                  unfold PlPost
                  rw [HF.out.1, HF.out.2, ← HXe.out]
                  exact ⟨_, rfl, own_ints HOq.out, OW.out.then HBq.out⟩
end Go.Proofs.YtkbbkolanbgajaaGreatDoor

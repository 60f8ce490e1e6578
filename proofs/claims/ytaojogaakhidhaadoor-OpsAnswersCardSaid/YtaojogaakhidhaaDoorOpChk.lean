/- Package ops: Check. -/
import Derived.Test.YtaojogaakhidhaaDoorQ1
import Derived.Test.YtaojogaakhidhaaDoorQ2
import Derived.Test.YtaojogaakhidhaaDoorOpParP
namespace Go.Proofs.YtaojogaakhidhaaDoor
open Go.RowKit
open Sc (OC OA num setN inR)
set_option maxRecDepth 100000 in
set_option maxHeartbeats 2000000 in
theorem check_bad (c : OC) (h : ¬ (1 ≤ c.k ∧ c.k ≤ 11)) (w : World) :
    Calls Tryd.prog 17 #[.agg (ocells c)] w fun e w' => e = .returned (.int .i64 2) ∧ Ow w w' := by
  obtain ⟨k, a, b, f, p, r, v⟩ := c
  unfold ocells
  simp only at h ⊢
  by_cases hl : k < 1
  · clear h
    go_enter Tryd.func17, Tryd.ntmps17
    go_wp2_with fail
    go_ret
    exact ⟨rfl, (Ow.refl _).alloc _⟩
  · have hg : 11 < k := by omega
    clear h
    go_enter Tryd.func17, Tryd.ntmps17
    go_wp2_with fail
    go_ret
    exact ⟨rfl, (Ow.refl _).alloc _⟩
/-- What stands in the loop over a kind's fields. -/
structure CI (w : World) (c : OC) (n g i : Nat) (W : World) : Prop where
  ow : Ow w W
  bare : Bx (w.heap.size + 1) (ocells (Sc.bareF c ((Sc.kf c.k).take i))) 24 W
  err : Bx (w.heap.size + 1 + 1) #[.int .i64 (Sc.errF c ((Sc.kf c.k).take i))] 25 W
  row : n ≤ 10 → w.heap.size + 2 < g ∧ Bx g (intCells (kfInts n)) 3 W
theorem CI.start (w : World) (c : OC) (n g : Nat) (W : World) (hg : n ≤ 10 → w.heap.size + 2 < g ∧ Bx g (intCells (kfInts n)) 3 W)
    (h : Ow (((w.alloc (.cells (ocells c) 24)).alloc (.cells (ocells { c with k := 0 }) 24)).alloc (.cells #[.int .i64 0] 25)) W) : CI w c n g 0 W := by
  refine ⟨Ow.then (((Ow.refl _).alloc _).alloc _ |>.alloc _) h, ?_, ?_, hg⟩
  · have h1 := ((Bx.new (w.alloc (.cells (ocells c) 24)) (ocells { c with k := 0 }) 24).alloc (.cells #[.int .i64 0] 25)).then h
    simpa [Sc.bareF] using h1
  · have h1 := (Bx.new ((w.alloc (.cells (ocells c) 24)).alloc (.cells (ocells { c with k := 0 }) 24)) #[.int .i64 0] 25).then h
    simpa [Sc.errF] using h1
theorem CI.cell {w : World} {c : OC} {n g i : Nat} {W : World} (h : CI w c n g i W) (h10 : n ≤ 10) {j : Nat} (hj : (Sc.kf (n : Int))[i]? = some j) : W.cell? ⟨g, i, none⟩ = some (.int .i64 j) := by
  refine (h.row h10).2.at ?_
  simp [intCells, kfInts, hj]
theorem CI.take {w : World} {c : OC} {n g i : Nat} {W : World} (h : CI w c n g i W) (hc : c.k = (n : Int)) (h1 : 1 ≤ n) (h10 : n ≤ 10) {j : Nat} (hj : (Sc.kf (n : Int))[i]? = some j) :
    Calls Tryd.prog 29 #[.int .i64 j, .pointer (some ⟨w.heap.size + 1, 0, none⟩), .pointer (some ⟨w.heap.size + 1 + 1, 0, none⟩)] W fun e w' => (∃ v, e = .returned v) ∧ CI w c n g (i + 1) w' := by
  have hk : 1 ≤ c.k ∧ c.k ≤ 11 := by omega
  have hjc : (Sc.kf c.k)[i]? = some j := by rw [hc]; exact hj
  have hin := Sc.kf_in n (by omega) j (List.mem_of_getElem? hj)
  have hnum := Sc.num_bareF c hk i j hjc
  have ht : (Sc.kf c.k).take (i + 1) = (Sc.kf c.k).take i ++ [j] := by rw [List.take_add_one, hjc]; rfl
  have fin : ∀ (x : Int) e w', x = Sc.errF c ((Sc.kf c.k).take (i + 1)) → TakeP w W (w.heap.size + 1) (w.heap.size + 1 + 1) (setN (Sc.bareF c ((Sc.kf c.k).take i)) j 0) x e w' → (∃ v, e = .returned v) ∧ CI w c n g (i + 1) w' := by
    intro x e w' hx ⟨h1, h2, h3, h4, h5⟩
    refine ⟨h1, h2, ?_, by rw [← hx]; exact h4, fun _ => ?_⟩
    · rw [ht, Sc.bareF_snoc]; exact h3
    · have := h.row h10
      exact ⟨this.1, h5 _ _ _ (by omega) (by omega) this.2⟩
  by_cases h6 : j = 6
  · subst h6
    exact (take_six w W _ _ _ _ h.ow (by omega) h.bare h.err (by omega)).mono fun e w' => fin _ e w' (by rw [ht, Sc.errF_snoc, if_pos (.inl rfl)])
  · refine (take_num w W _ _ j hin.1 (by omega) _ _ h.ow (by omega) (by omega) h.bare h.err (by omega)).mono fun e w' => fin _ e w' ?_
    rw [ht, Sc.errF_snoc, hnum]
    by_cases hr : inR (num c j) = true
    · rw [if_pos hr, if_pos (.inr hr)]
    · rw [if_neg hr, if_neg (fun h => h.elim h6 hr)]
set_option maxRecDepth 100000 in
set_option maxHeartbeats 2000000 in
theorem check_ok (c : OC) (h : 1 ≤ c.k ∧ c.k ≤ 11) (w : World) :
    Calls Tryd.prog 17 #[.agg (ocells c)] w fun e w' => e = .returned (.int .i64 (Sc.chkE c)) ∧ Ow w w' := by
  have HK := Lib.hid h
  obtain ⟨h1, h11⟩ := h
  unfold ocells
  obtain ⟨k, a, b, f, p, r, v⟩ := c
  simp only at h1 h11 ⊢
  obtain ⟨n, rfl⟩ : ∃ n : Nat, k = n := ⟨k.toNat, by omega⟩
  have e1 : ¬ (n : Int) < 1 := by omega
  have e2 : ¬ (11 : Int) < n := by omega
  have HFd := fld_row
  have HR := Lib.hid (fun g => idx_row g n (by omega) (by omega))
  go_enter Tryd.func17, Tryd.ntmps17
  go_wp2_with fail
  go_region_with (go_at_call 25; refine (table_any _).mono ?_; rintro e w1 ⟨g, rfl, hb1, hg⟩; obtain ⟨nm, q, len, HI, hlen, hq, hnm⟩ := HR.out g; have r1 : w1.cell? ⟨w.heap.size, 0, none⟩ = some (.int .i64 n) := (hb1.cell (p := ⟨w.heap.size, 0, none⟩) (by simp; omega)).trans (by first | exact (((Bx.new w _ _).alloc _).alloc _).at rfl | exact ((((Bx.new w _ _).alloc _).alloc _).drewN _).at rfl | simp [go_sem]))
  all_goals
    have H3 : Hid (CI w ⟨n, a, b, f, p, r, v⟩ n (g n) 0 w1) := CI.start w _ n (g n) w1 (fun h => ⟨by have := (hg n (by omega) h).1; simp at this; omega, (hg n (by omega) h).2⟩) (by first | exact Ow.then (Ow.refl _).drew hb1 | exact Ow.then ((Ow.refl _).drewN _) hb1)
    have HQ := Lib.hid hq
    clear r1 hb1 hg HR hq HI hnm hlen
    simp only [Act.put, List.getElem_toArray, List.getElem_cons_succ, List.getElem_cons_zero, List.setIfInBounds_toArray, List.set_cons_succ, List.set_cons_zero]
    go_wp2_with fail
    go_loopw [25] (fun ix wr => ∃ i : Nat, i ≤ (Sc.kf (n : Int)).length ∧ ix = .int .i64 i ∧ Hid (CI w ⟨n, a, b, f, p, r, v⟩ n (g n) i wr)) (fun ix _ => (Sc.kf (n : Int)).length - (intOf ix).toNat)
    case atStart => exact ⟨0, Nat.zero_le _, rfl, H3⟩
    case round =>
      obtain ⟨i, hi, rfl, HC⟩ := hrel
      have hk3 := Sc.kf_three (n : Int)
      by_cases hlt : i < (Sc.kf (n : Int)).length
      · obtain ⟨j, hj⟩ : ∃ j, (Sc.kf (n : Int))[i]? = some j := ⟨_, List.getElem?_eq_getElem hlt⟩
        have h10 : n ≤ 10 := by
          rcases Nat.lt_or_ge 10 n with h | h
          · obtain rfl : n = 11 := by omega
            exact absurd hlt (Nat.not_lt_zero _)
          · exact h
        obtain rfl := HQ.out h10
        have hcell := HC.out.cell h10 hj
        have HT := Lib.hid (HC.out.take rfl (by omega) h10 hj)
        have el : decide (i < (Sc.kf (n : Int)).length) = true := by simpa using hlt
        clear hj
        go_wp2_with (go_at_call 29; refine HT.out.mono ?_; rintro e w2 ⟨⟨v2, rfl⟩, hC2⟩)
        go_roundw
        case rel => exact ⟨i + 1, by omega, by go_num, hC2⟩
        case measure => simp [intOf]; omega
      · have el : decide (i < (Sc.kf (n : Int)).length) = false := by simpa using hlt
        have HC7 : Hid (CI w ⟨n, a, b, f, p, r, v⟩ n (g n) (Sc.kf (n : Int)).length wr) := by
          have : i = (Sc.kf (n : Int)).length := by omega
          rw [← this]; exact HC
        clear hlt HC HQ H3 h1 h11
        cases hbo : Sc.bareOk ⟨n, a, b, f, p, r, v⟩ with
        | true =>
          have HE : Hid (Sc.chkE ⟨n, a, b, f, p, r, v⟩ = Sc.errF ⟨n, a, b, f, p, r, v⟩ (Sc.kf (n : Int))) := Sc.chk_ok _ HK.out hbo
          have hz := (Sc.bareF_zero ⟨n, a, b, f, p, r, v⟩ HK.out).2 hbo
          have HB : Hid (Bx (w.heap.size + 1) (ocells ⟨0, 0, 0, 0, 0, 0, 0⟩) 24 wr) := by
            have := HC7.out.bare
            simp only [List.take_length] at this hz
            rwa [hz] at this
          have r2 : wr.cell? ⟨w.heap.size + 1 + 1, 0, none⟩ = some (.int .i64 (Sc.errF ⟨n, a, b, f, p, r, v⟩ (Sc.kf (n : Int)))) := by
            have := HC7.out.err
            simp only [List.take_length] at this
            exact this.at rfl
          clear hbo hz
          go_wp2_with (refine wpList_load_row rfl 24 _ rfl (w.heap.size + 1) rfl 24 (ocells ⟨0, 0, 0, 0, 0, 0, 0⟩) (0, 0) _ HB.out Tryd.underlying24 rfl (by kernel_rfl) ?_; unfold ocells)
          go_ret
          rw [HE.out]
          exact ⟨rfl, HC7.out.ow⟩
        | false =>
          have HE : Hid (Sc.chkE ⟨n, a, b, f, p, r, v⟩ = 2) := Sc.chk_no _ hbo
          obtain ⟨a1, b1, f1, p1, q1, v1, hz, hne⟩ := Sc.bareF_ne ⟨n, a, b, f, p, r, v⟩ HK.out hbo
          have HB : Hid (Bx (w.heap.size + 1) (ocells ⟨0, a1, b1, f1, p1, q1, v1⟩) 24 wr) := by
            have := HC7.out.bare
            simp only [List.take_length] at this hz
            rwa [hz] at this
          clear hbo hz
          rcases hne with h | ⟨rfl, h⟩ | ⟨rfl, rfl, h⟩ | ⟨rfl, rfl, rfl, h⟩ | ⟨rfl, rfl, rfl, rfl, h⟩ | ⟨rfl, rfl, rfl, rfl, rfl, h⟩
          all_goals
            have hn0 := beq_eq_false_iff_ne.2 h
            clear h
            go_wp2_with (refine wpList_load_row rfl 24 _ rfl (w.heap.size + 1) rfl 24 (ocells ⟨0, _, _, _, _, _, _⟩) (0, 0) _ HB.out Tryd.underlying24 rfl (by kernel_rfl) ?_; unfold ocells)
            go_ret
            rw [HE.out]
            exact ⟨rfl, HC7.out.ow⟩
theorem check_any (c : OC) (m : Int) (hm : Sc.chkE c = m) (w : World) :
    Calls Tryd.prog 17 #[.agg (ocells c)] w fun e w' => e = .returned (.int .i64 m) ∧ Ow w w' := by
  subst hm
  by_cases h : 1 ≤ c.k ∧ c.k ≤ 11
  · exact check_ok c h w
  · rw [Sc.chk_kind h]; exact check_bad c h w
end Go.Proofs.YtaojogaakhidhaaDoor

/- The law WordsBoth, walked. -/
import Derived.Test.YtkbbkolanbgajaaDoorWLJn
namespace Go.Proofs.YtkbbkolanbgajaaDoor
open Go.RowKit
open Wd (joinE joinS joinT okF longF)

theorem joinE_zero {fs : List (List UInt8 × Bool)} : joinE fs = 0 ↔ (fs.length ≤ 64 ∧ fs.any longF = false) ∧ fs.all okF = true ∧ (joinT fs).length ≤ 8192 := by
  unfold joinE
  constructor
  · intro h
    split at h
    · cases h
    · rename_i h1
      split at h
      · cases h
      · rename_i h2
        split at h
        · cases h
        · rename_i h3
          rw [not_or] at h1
          exact ⟨⟨by omega, by simpa using h1.2⟩, by simpa using h2, by omega⟩
  · rintro ⟨⟨h1, h2⟩, h3, h4⟩
    rw [if_neg (by rw [h2]; simp; omega), if_neg (by rw [h3]; simp), if_neg (by omega)]
theorem any_app {α : Type} {p : α → Bool} {l m : List α} : (l ++ m).any p = false ↔ l.any p = false ∧ m.any p = false := by rw [List.any_append, Bool.or_eq_false_iff]
theorem all_app {α : Type} {p : α → Bool} {l m : List α} : (l ++ m).all p = true ↔ l.all p = true ∧ m.all p = true := by rw [List.all_append, Bool.and_eq_true]
theorem both_bad {fs gs : List (List UInt8 × Bool)} (hf : fs ≠ []) (hg : gs ≠ []) (h : joinE fs ≠ 0 ∨ joinE gs ≠ 0) : joinE (fs ++ gs) ≠ 0 := by
  intro e
  obtain ⟨⟨h1, h2⟩, h3, h4⟩ := joinE_zero.1 e
  rw [List.length_append] at h1
  obtain ⟨h2a, h2b⟩ := any_app.1 h2
  obtain ⟨h3a, h3b⟩ := all_app.1 h3
  rw [Wd.join_app fs gs hf hg, List.length_append, List.length_cons] at h4
  rcases h with h | h
  · exact h (joinE_zero.2 ⟨⟨by omega, h2a⟩, h3a, by omega⟩)
  · exact h (joinE_zero.2 ⟨⟨by omega, h2b⟩, h3b, by omega⟩)
theorem both_long {fs gs : List (List UInt8 × Bool)} (hf : fs ≠ []) (hg : gs ≠ []) (h1 : joinE fs = 0) (h2 : joinE gs = 0) (h : 64 < fs.length + gs.length ∨ 8192 < (joinT fs).length + 1 + (joinT gs).length) : joinE (fs ++ gs) = 3 ∧ joinS (fs ++ gs) = [] := by
  obtain ⟨⟨a1, a2⟩, a3, a4⟩ := joinE_zero.1 h1
  obtain ⟨⟨b1, b2⟩, b3, b4⟩ := joinE_zero.1 h2
  have e : joinE (fs ++ gs) = 3 := by
    unfold joinE
    by_cases hl : 64 < (fs ++ gs).length
    · rw [if_pos (.inl hl)]
    · rw [if_neg (by rw [any_app.2 ⟨a2, b2⟩]; simp at hl ⊢; omega), if_neg (by rw [all_app.2 ⟨a3, b3⟩]; simp), if_pos (by rw [List.length_append] at hl; rw [Wd.join_app fs gs hf hg, List.length_append, List.length_cons]; omega)]
  exact ⟨e, joinS_no e (by decide)⟩
theorem both_ok {fs gs : List (List UInt8 × Bool)} (hf : fs ≠ []) (hg : gs ≠ []) (h1 : joinE fs = 0) (h2 : joinE gs = 0) (h3 : ¬ 64 < fs.length + gs.length) (h4 : ¬ 8192 < (joinT fs).length + 1 + (joinT gs).length) : joinE (fs ++ gs) = 0 ∧ joinS (fs ++ gs) = (joinS fs ++ [32]) ++ joinS gs := by
  obtain ⟨⟨a1, a2⟩, a3, a4⟩ := joinE_zero.1 h1
  obtain ⟨⟨b1, b2⟩, b3, b4⟩ := joinE_zero.1 h2
  have e : joinE (fs ++ gs) = 0 := joinE_zero.2 ⟨⟨by rw [List.length_append]; omega, any_app.2 ⟨a2, b2⟩⟩, all_app.2 ⟨a3, b3⟩, by rw [Wd.join_app fs gs hf hg, List.length_append, List.length_cons]; omega⟩
  refine ⟨e, ?_⟩
  unfold joinS
  rw [if_pos e, if_pos h1, if_pos h2, Wd.join_app fs gs hf hg]
  simp
theorem cellsF_app (fs gs : List (List UInt8 × Bool)) : cellsF (fs ++ gs) = cellsF fs ++ cellsF gs := by simp [cellsF]
theorem cellsF_all : ∀ (fs : List (List UInt8 × Bool)) (j : Nat) (u : Value), (cellsF fs)[j]? = some u → ∃ i x, fs[i]? = some x ∧ ((j = i * 2 ∧ u = .string ⟨x.1.toArray⟩) ∨ (j = i * 2 + 1 ∧ u = .bool x.2))
  | [], j, u, h => by simp [cellsF] at h
  | y :: fs, 0, u, h => ⟨0, y, rfl, .inl ⟨rfl, by simpa [cellsF] using h.symm⟩⟩
  | y :: fs, 1, u, h => ⟨0, y, rfl, .inr ⟨rfl, by simpa [cellsF] using h.symm⟩⟩
  | y :: fs, j + 2, u, h => by
    obtain ⟨i, x, hx, h⟩ := cellsF_all fs j u (by simpa [cellsF] using h)
    exact ⟨i + 1, x, by simpa using hx, by rcases h with ⟨h1, h2⟩ | ⟨h1, h2⟩; exact .inl ⟨by omega, h2⟩; exact .inr ⟨by omega, h2⟩⟩
theorem cellsF_one (fs : List (List UInt8 × Bool)) : ∀ u ∈ cellsF fs, u.oneCell' = true := by
  intro u hu
  obtain ⟨j, hj⟩ := List.getElem?_of_mem hu
  obtain ⟨i, x, _, ⟨_, rfl⟩ | ⟨_, rfl⟩⟩ := cellsF_all fs j u hj <;> rfl
theorem flds_both {w : World} {base : Nat} {v : Value} {fs gs : List (List UInt8 × Bool)} (h : w.ownsRow base 43 2 v (fs.length + gs.length) (cellsF fs ++ cellsF gs)) : FldsA w v (fs ++ gs) := by
  rw [← cellsF_app, ← List.length_append] at h
  exact (flds_own h).any
theorem cells_src {w W : World} {g off : Nat} {fs : List (List UInt8 × Bool)} (hg : g < w.heap.size) (hb : Ow w W) (hc : ∀ (i : Nat) x, fs[i]? = some x → w.cell? ⟨g, off + i * 2, none⟩ = some (.string ⟨x.1.toArray⟩) ∧ w.cell? ⟨g, off + i * 2 + 1, none⟩ = some (.bool x.2)) :
    ∀ j u, (cellsF fs)[j]? = some u → W.cell? ((⟨g, off, none⟩ : Addr).add j) = some u := by
  intro j u hj
  have ha : (⟨g, off, none⟩ : Addr).add j = ⟨g, off + j, none⟩ := by cases j <;> simp [Addr.add]
  rw [ha, hb.cell (p := ⟨g, off + j, none⟩) hg]
  obtain ⟨i, x, hx, ⟨rfl, rfl⟩ | ⟨rfl, rfl⟩⟩ := cellsF_all fs j u hj
  · exact (hc i x hx).1
  · exact (hc i x hx).2

set_option maxRecDepth 100000 in
set_option maxHeartbeats 4000000 in
theorem both_walk (v : Value) (fs : List (List UInt8 × Bool)) (v' : Value) (gs : List (List UInt8 × Bool)) (w : World) (hf : FldsA w v fs) (hz : fs.length ≤ maxLen) (hf' : FldsA w v' gs) (hz' : gs.length ≤ maxLen) (hg : Gl w) :
    Calls Tryd.prog 7 #[v, v'] w fun e w' => e = .returned (.bool true) ∧ Ow w w' := by
  unfold maxLen at hz hz'
  have HG := Lib.hid hg
  have HF := Lib.hid hf
  have HF' := Lib.hid hf'
  clear hg hf hf'
  cases hfar : farB fs with
  | true =>
    have HFar := Lib.hid hfar
    clear hfar
    go_enter Tryd.func7, Tryd.ntmps7
    go_wp2_with fail
    (go_at_call 23; refine (far_any _ _ _ HFar.out _ HF.out hz).mono ?_; rintro e w1 ⟨rfl, rfl⟩)
    go_wp2_with fail
    (go_at_call 9; refine (shown_any _ HG.out).mono ?_; rintro e w1 ⟨rfl, hb1⟩)
    go_wp2_with fail
    go_ret
    exact ⟨rfl, hb1⟩
  | false =>
    have HFar := Lib.hid hfar
    have hn : fs.length ≤ 70 := far_len hfar
    clear hfar
    cases hfar' : farB gs with
    | true =>
      have HFar' := Lib.hid hfar'
      clear hfar'
      go_enter Tryd.func7, Tryd.ntmps7
      go_wp2_with fail
      (go_at_call 23; refine (far_any _ _ _ HFar.out _ HF.out hz).mono ?_; rintro e w1 ⟨rfl, rfl⟩)
      go_wp2_with fail
      (go_at_call 23; refine (far_any _ _ _ HFar'.out _ HF'.out hz').mono ?_; rintro e w1 ⟨rfl, rfl⟩)
      go_wp2_with fail
      (go_at_call 9; refine (shown_any _ HG.out).mono ?_; rintro e w1 ⟨rfl, hb1⟩)
      go_wp2_with fail
      go_ret
      exact ⟨rfl, hb1⟩
    | false =>
      have HFar' := Lib.hid hfar'
      have hn' : gs.length ≤ 70 := far_len hfar'
      clear hfar'
      rcases HF.out with ⟨h0, a, cap, rfl⟩ | ⟨hne, g, off, cap, rfl, hgl, hc⟩
      · have HZ := Lib.hid h0
        clear h0
        go_enter Tryd.func7, Tryd.ntmps7
        go_wp2_with fail
        (go_at_call 23; refine (far_any _ _ _ HFar.out _ HF.out hz).mono ?_; rintro e w1 ⟨rfl, rfl⟩)
        go_wp2_with fail
        (go_at_call 23; refine (far_any _ _ _ HFar'.out _ HF'.out hz').mono ?_; rintro e w1 ⟨rfl, rfl⟩)
        go_wp2_with fail
        (go_at_call 9; refine (shown_any _ HG.out).mono ?_; rintro e w1 ⟨rfl, hb1⟩)
        go_wp2_with fail
        go_ret
        exact ⟨rfl, hb1⟩
      · have hl0 : 0 < fs.length := List.length_pos_iff.2 hne
        have e0 : ((fs.length : Int) == 0) = false := by rw [beq_eq_false_iff_ne]; omega
        have HNe := Lib.hid hne
        have HC := Lib.hid hc
        clear hne hc
        rcases HF'.out with ⟨h0, a', cap', rfl⟩ | ⟨hne', g', off', cap', rfl, hgl', hc'⟩
        · have HZ := Lib.hid h0
          clear h0
          go_enter Tryd.func7, Tryd.ntmps7
          go_wp2_with fail
          (go_at_call 23; refine (far_any _ _ _ HFar.out _ HF.out hz).mono ?_; rintro e w1 ⟨rfl, rfl⟩)
          go_wp2_with fail
          (go_at_call 23; refine (far_any _ _ _ HFar'.out _ HF'.out hz').mono ?_; rintro e w1 ⟨rfl, rfl⟩)
          go_wp2_with fail
          (go_at_call 9; refine (shown_any _ HG.out).mono ?_; rintro e w1 ⟨rfl, hb1⟩)
          go_wp2_with fail
          go_ret
          exact ⟨rfl, hb1⟩
        · have hl0' : 0 < gs.length := List.length_pos_iff.2 hne'
          have e0' : ((gs.length : Int) == 0) = false := by rw [beq_eq_false_iff_ne]; omega
          have HNe' := Lib.hid hne'
          have HC' := Lib.hid hc'
          clear hne' hc'
          obtain ⟨i0, hi0, hz0, hz1, hz2⟩ := info_parts Tryd.infoFld
          obtain ⟨ta, hta⟩ : ∃ t : ByteArray, t.data.toList = joinS fs := ⟨⟨(joinS fs).toArray⟩, rfl⟩
          obtain ⟨tb, htb⟩ : ∃ t : ByteArray, t.data.toList = joinS gs := ⟨⟨(joinS gs).toArray⟩, rfl⟩
          obtain ⟨m1, hm1⟩ : ∃ m, joinE fs = m := ⟨_, rfl⟩
          obtain ⟨m2, hm2⟩ : ∃ m, joinE gs = m := ⟨_, rfl⟩
          have HTa := Lib.hid hta
          have HTb := Lib.hid htb
          have HM1 := Lib.hid hm1
          have HM2 := Lib.hid hm2
          have hcl : (cellsF fs).length = fs.length * 2 := cellsF_len fs
          have hcl' : (cellsF gs).length = gs.length * 2 := cellsF_len gs
          have HCl := Lib.hid hcl
          have HCl' := Lib.hid hcl'
          clear hta htb hm1 hm2 hcl hcl'
          go_enter Tryd.func7, Tryd.ntmps7
          go_wp2_with fail
          (go_at_call 23; refine (far_any _ _ _ HFar.out _ HF.out (by omega)).mono ?_; rintro e w1 ⟨rfl, rfl⟩)
          go_wp2_with fail
          (go_at_call 23; refine (far_any _ _ _ HFar'.out _ HF'.out (by omega)).mono ?_; rintro e w1 ⟨rfl, rfl⟩)
          go_wp2_with fail
          (go_at_call 24; refine (wjoin_is _ _ _ _ HTa.out HM1.out _ HF.out (by omega) HG.out).mono ?_; rintro e w1 ⟨rfl, hb1⟩)
          have O1 : Hid (Ow w w1) := hb1
          clear hb1
          go_wp2_with fail
          (go_at_call 24; refine (wjoin_is _ _ _ _ HTb.out HM2.out _ (HF'.out.then O1.out) (by omega) (HG.out.below O1.out)).mono ?_; rintro e w2 ⟨rfl, hb2⟩)
          have O2 := Lib.hid (O1.out.then hb2)
          clear hb2
          have HO0 : Hid ((w2.alloc (.cells #[] 43)).ownsRow w.heap.size 43 2 (.slice (some ⟨w2.heap.size, 0, none⟩) 0 0) 0 []) := World.ownsRow_lit (base := w.heap.size) (e := 43) (size := 2) w2 #[] 0 O2.out.size (by decide) rfl
          by_cases h1 : m1 = 0
          · subst h1
            by_cases h2 : m2 = 0
            · subst h2
              have ha : Hid ((joinT fs).length = ta.size) := by
                have := HTa.out
                unfold joinS at this
                rw [if_pos HM1.out] at this
                rw [Hid, ← this, ba_len]
              have hb : Hid ((joinT gs).length = tb.size) := by
                have := HTb.out
                unfold joinS at this
                rw [if_pos HM2.out] at this
                rw [Hid, ← this, ba_len]
              have hsa : ta.size ≤ 8192 := by have := (joinE_zero.1 HM1.out).2.2; rw [ha.out] at this; exact this
              have hsb : tb.size ≤ 8192 := by have := (joinE_zero.1 HM2.out).2.2; rw [hb.out] at this; exact this
              by_cases h3 : 64 < fs.length + gs.length
              · obtain ⟨q1, q2⟩ := both_long HNe.out HNe'.out HM1.out HM2.out (.inl h3)
                have HM3 := Lib.hid q1
                have HT3 : Hid ((⟨#[]⟩ : ByteArray).data.toList = joinS (fs ++ gs)) := q2.symm
                have g3 : (64 : Int) < (fs.length : Int) + (gs.length : Int) := by omega
                clear q1 q2 h3
                go_wp2_with (first
                  | (at_builtin; refine wpList_append_own _ rfl _ _ 23 rfl w.heap.size 43 i0 (.agg #[.string ByteArray.empty, .bool false]) 2 24 Tryd.underlying23 hi0 hz0 hz1 hz2 rfl (by decide) _ fs.length (cellsF fs) rfl HO3.out ⟨g', off', none⟩ gs.length cap' (cellsF gs) rfl HCl'.out (cells_src hgl' O3.out HC'.out) (cellsF_one _) (by unfold maxLen; omega) (by omega) O3.out.size ?_; intro v4 w4 hown4 hgrow4 hnil4; have O4 : Hid (Ow w w4) := own_after HO3.out hgrow4 O3.out (Nat.le_refl _); have F4 : Hid (FldsA w4 v4 (fs ++ gs)) := flds_both hown4; clear hown4 hgrow4 hnil4)
                  | (at_builtin; refine wpList_append_own _ rfl _ _ 23 rfl w.heap.size 43 i0 (.agg #[.string ByteArray.empty, .bool false]) 2 24 Tryd.underlying23 hi0 hz0 hz1 hz2 rfl (by decide) _ 0 [] rfl HO0.out ⟨g, off, none⟩ fs.length cap (cellsF fs) rfl HCl.out (cells_src hgl (O2.out.alloc _) HC.out) (cellsF_one _) (by unfold maxLen; omega) (by omega) (by have := O2.out.size; simp; omega) ?_; intro v3 w3 hown3 hgrow3 hnil3; have O3 : Hid (Ow w w3) := own_after HO0.out hgrow3 (O2.out.alloc _) (Nat.le_refl _); have HO3 : Hid (w3.ownsRow w.heap.size 43 2 v3 fs.length (cellsF fs)) := (by rw [Hid]; simpa using hown3); clear hown3 hgrow3 hnil3)
                  | (go_at_call 24; refine (wjoin_is _ _ ⟨#[]⟩ _ HT3.out HM3.out _ F4.out (by simp; omega) (HG.out.below O4.out)).mono ?_; rintro e w5 ⟨rfl, hb5⟩; have O5 := Lib.hid (O4.out.then hb5); clear hb5)
                  | (go_at_call 9; refine (shown_any _ (HG.out.below O5.out)).mono ?_; rintro e w6 ⟨rfl, hb6⟩; have O6 := Lib.hid (O5.out.then hb6); clear hb6))
                go_ret
                exact ⟨rfl, O6.out⟩
              · have g3 : ¬ (64 : Int) < (fs.length : Int) + (gs.length : Int) := by omega
                by_cases h4 : 8192 < ta.size + 1 + tb.size
                · obtain ⟨q1, q2⟩ := both_long HNe.out HNe'.out HM1.out HM2.out (.inr (by rw [ha.out, hb.out]; exact h4))
                  have HM3 := Lib.hid q1
                  have HT3 : Hid ((⟨#[]⟩ : ByteArray).data.toList = joinS (fs ++ gs)) := q2.symm
                  have g4 : (8192 : Int) < (ta.size : Int) + 1 + (tb.size : Int) := by omega
                  clear q1 q2 h3 h4
                  go_wp2_with (first
                    | (at_builtin; refine wpList_append_own _ rfl _ _ 23 rfl w.heap.size 43 i0 (.agg #[.string ByteArray.empty, .bool false]) 2 24 Tryd.underlying23 hi0 hz0 hz1 hz2 rfl (by decide) _ fs.length (cellsF fs) rfl HO3.out ⟨g', off', none⟩ gs.length cap' (cellsF gs) rfl HCl'.out (cells_src hgl' O3.out HC'.out) (cellsF_one _) (by unfold maxLen; omega) (by omega) O3.out.size ?_; intro v4 w4 hown4 hgrow4 hnil4; have O4 : Hid (Ow w w4) := own_after HO3.out hgrow4 O3.out (Nat.le_refl _); have F4 : Hid (FldsA w4 v4 (fs ++ gs)) := flds_both hown4; clear hown4 hgrow4 hnil4)
                    | (at_builtin; refine wpList_append_own _ rfl _ _ 23 rfl w.heap.size 43 i0 (.agg #[.string ByteArray.empty, .bool false]) 2 24 Tryd.underlying23 hi0 hz0 hz1 hz2 rfl (by decide) _ 0 [] rfl HO0.out ⟨g, off, none⟩ fs.length cap (cellsF fs) rfl HCl.out (cells_src hgl (O2.out.alloc _) HC.out) (cellsF_one _) (by unfold maxLen; omega) (by omega) (by have := O2.out.size; simp; omega) ?_; intro v3 w3 hown3 hgrow3 hnil3; have O3 : Hid (Ow w w3) := own_after HO0.out hgrow3 (O2.out.alloc _) (Nat.le_refl _); have HO3 : Hid (w3.ownsRow w.heap.size 43 2 v3 fs.length (cellsF fs)) := (by rw [Hid]; simpa using hown3); clear hown3 hgrow3 hnil3)
                    | (go_at_call 24; refine (wjoin_is _ _ ⟨#[]⟩ _ HT3.out HM3.out _ F4.out (by simp; omega) (HG.out.below O4.out)).mono ?_; rintro e w5 ⟨rfl, hb5⟩; have O5 := Lib.hid (O4.out.then hb5); clear hb5)
                    | (go_at_call 9; refine (shown_any _ (HG.out.below O5.out)).mono ?_; rintro e w6 ⟨rfl, hb6⟩; have O6 := Lib.hid (O5.out.then hb6); clear hb6))
                  go_ret
                  exact ⟨rfl, O6.out⟩
                · obtain ⟨q1, q2⟩ := both_ok HNe.out HNe'.out HM1.out HM2.out h3 (by rw [ha.out, hb.out]; exact h4)
                  have HM3 := Lib.hid q1
                  have HT3 : Hid ((ta ++ ⟨#[32]⟩ ++ tb).data.toList = joinS (fs ++ gs)) := by rw [Hid, q2, ba_app, ba_app, HTa.out, HTb.out]
                  have g4 : ¬ (8192 : Int) < (ta.size : Int) + 1 + (tb.size : Int) := by omega
                  clear q1 q2 h3 h4
                  go_wp2_with (first
                    | (at_builtin; refine wpList_append_own _ rfl _ _ 23 rfl w.heap.size 43 i0 (.agg #[.string ByteArray.empty, .bool false]) 2 24 Tryd.underlying23 hi0 hz0 hz1 hz2 rfl (by decide) _ fs.length (cellsF fs) rfl HO3.out ⟨g', off', none⟩ gs.length cap' (cellsF gs) rfl HCl'.out (cells_src hgl' O3.out HC'.out) (cellsF_one _) (by unfold maxLen; omega) (by omega) O3.out.size ?_; intro v4 w4 hown4 hgrow4 hnil4; have O4 : Hid (Ow w w4) := own_after HO3.out hgrow4 O3.out (Nat.le_refl _); have F4 : Hid (FldsA w4 v4 (fs ++ gs)) := flds_both hown4; clear hown4 hgrow4 hnil4)
                    | (at_builtin; refine wpList_append_own _ rfl _ _ 23 rfl w.heap.size 43 i0 (.agg #[.string ByteArray.empty, .bool false]) 2 24 Tryd.underlying23 hi0 hz0 hz1 hz2 rfl (by decide) _ 0 [] rfl HO0.out ⟨g, off, none⟩ fs.length cap (cellsF fs) rfl HCl.out (cells_src hgl (O2.out.alloc _) HC.out) (cellsF_one _) (by unfold maxLen; omega) (by omega) (by have := O2.out.size; simp; omega) ?_; intro v3 w3 hown3 hgrow3 hnil3; have O3 : Hid (Ow w w3) := own_after HO0.out hgrow3 (O2.out.alloc _) (Nat.le_refl _); have HO3 : Hid (w3.ownsRow w.heap.size 43 2 v3 fs.length (cellsF fs)) := (by rw [Hid]; simpa using hown3); clear hown3 hgrow3 hnil3)
                    | (go_at_call 24; refine (wjoin_is _ _ (ta ++ ⟨#[32]⟩ ++ tb) _ HT3.out HM3.out _ F4.out (by simp; omega) (HG.out.below O4.out)).mono ?_; rintro e w5 ⟨rfl, hb5⟩; have O5 := Lib.hid (O4.out.then hb5); clear hb5)
                    | (go_at_call 9; refine (shown_any _ (HG.out.below O5.out)).mono ?_; rintro e w6 ⟨rfl, hb6⟩; have O6 := Lib.hid (O5.out.then hb6); clear hb6))
                  go_ret
                  exact ⟨rfl, O6.out⟩
            · have q1 := both_bad HNe.out HNe'.out (.inr (by rw [HM2.out]; exact h2))
              obtain ⟨m3, hm3⟩ : ∃ m, joinE (fs ++ gs) = m := ⟨_, rfl⟩
              obtain ⟨tc, htc⟩ : ∃ t : ByteArray, t.data.toList = joinS (fs ++ gs) := ⟨⟨(joinS (fs ++ gs)).toArray⟩, rfl⟩
              rw [hm3] at q1
              have HM3 := Lib.hid hm3
              have HT3 := Lib.hid htc
              have e1 : (m2 != 0) = true := by rw [bne_iff_ne]; exact h2
              have e3 : (m3 != 0) = true := by rw [bne_iff_ne]; exact q1
              clear hm3 htc h2 q1
              go_wp2_with (first
                | (at_builtin; refine wpList_append_own _ rfl _ _ 23 rfl w.heap.size 43 i0 (.agg #[.string ByteArray.empty, .bool false]) 2 24 Tryd.underlying23 hi0 hz0 hz1 hz2 rfl (by decide) _ fs.length (cellsF fs) rfl HO3.out ⟨g', off', none⟩ gs.length cap' (cellsF gs) rfl HCl'.out (cells_src hgl' O3.out HC'.out) (cellsF_one _) (by unfold maxLen; omega) (by omega) O3.out.size ?_; intro v4 w4 hown4 hgrow4 hnil4; have O4 : Hid (Ow w w4) := own_after HO3.out hgrow4 O3.out (Nat.le_refl _); have F4 : Hid (FldsA w4 v4 (fs ++ gs)) := flds_both hown4; clear hown4 hgrow4 hnil4)
                | (at_builtin; refine wpList_append_own _ rfl _ _ 23 rfl w.heap.size 43 i0 (.agg #[.string ByteArray.empty, .bool false]) 2 24 Tryd.underlying23 hi0 hz0 hz1 hz2 rfl (by decide) _ 0 [] rfl HO0.out ⟨g, off, none⟩ fs.length cap (cellsF fs) rfl HCl.out (cells_src hgl (O2.out.alloc _) HC.out) (cellsF_one _) (by unfold maxLen; omega) (by omega) (by have := O2.out.size; simp; omega) ?_; intro v3 w3 hown3 hgrow3 hnil3; have O3 : Hid (Ow w w3) := own_after HO0.out hgrow3 (O2.out.alloc _) (Nat.le_refl _); have HO3 : Hid (w3.ownsRow w.heap.size 43 2 v3 fs.length (cellsF fs)) := (by rw [Hid]; simpa using hown3); clear hown3 hgrow3 hnil3)
                | (go_at_call 24; refine (wjoin_is _ _ tc _ HT3.out HM3.out _ F4.out (by simp; omega) (HG.out.below O4.out)).mono ?_; rintro e w5 ⟨rfl, hb5⟩; have O5 := Lib.hid (O4.out.then hb5); clear hb5)
                | (go_at_call 9; refine (shown_any _ (HG.out.below O5.out)).mono ?_; rintro e w6 ⟨rfl, hb6⟩; have O6 := Lib.hid (O5.out.then hb6); clear hb6))
              go_ret
              exact ⟨rfl, O6.out⟩
          · have q1 := both_bad HNe.out HNe'.out (.inl (by rw [HM1.out]; exact h1))
            obtain ⟨m3, hm3⟩ : ∃ m, joinE (fs ++ gs) = m := ⟨_, rfl⟩
            obtain ⟨tc, htc⟩ : ∃ t : ByteArray, t.data.toList = joinS (fs ++ gs) := ⟨⟨(joinS (fs ++ gs)).toArray⟩, rfl⟩
            rw [hm3] at q1
            have HM3 := Lib.hid hm3
            have HT3 := Lib.hid htc
            have e1 : (m1 != 0) = true := by rw [bne_iff_ne]; exact h1
            have e3 : (m3 != 0) = true := by rw [bne_iff_ne]; exact q1
            clear hm3 htc h1 q1
            go_wp2_with (first
              | (at_builtin; refine wpList_append_own _ rfl _ _ 23 rfl w.heap.size 43 i0 (.agg #[.string ByteArray.empty, .bool false]) 2 24 Tryd.underlying23 hi0 hz0 hz1 hz2 rfl (by decide) _ fs.length (cellsF fs) rfl HO3.out ⟨g', off', none⟩ gs.length cap' (cellsF gs) rfl HCl'.out (cells_src hgl' O3.out HC'.out) (cellsF_one _) (by unfold maxLen; omega) (by omega) O3.out.size ?_; intro v4 w4 hown4 hgrow4 hnil4; have O4 : Hid (Ow w w4) := own_after HO3.out hgrow4 O3.out (Nat.le_refl _); have F4 : Hid (FldsA w4 v4 (fs ++ gs)) := flds_both hown4; clear hown4 hgrow4 hnil4)
              | (at_builtin; refine wpList_append_own _ rfl _ _ 23 rfl w.heap.size 43 i0 (.agg #[.string ByteArray.empty, .bool false]) 2 24 Tryd.underlying23 hi0 hz0 hz1 hz2 rfl (by decide) _ 0 [] rfl HO0.out ⟨g, off, none⟩ fs.length cap (cellsF fs) rfl HCl.out (cells_src hgl (O2.out.alloc _) HC.out) (cellsF_one _) (by unfold maxLen; omega) (by omega) (by have := O2.out.size; simp; omega) ?_; intro v3 w3 hown3 hgrow3 hnil3; have O3 : Hid (Ow w w3) := own_after HO0.out hgrow3 (O2.out.alloc _) (Nat.le_refl _); have HO3 : Hid (w3.ownsRow w.heap.size 43 2 v3 fs.length (cellsF fs)) := (by rw [Hid]; simpa using hown3); clear hown3 hgrow3 hnil3)
              | (go_at_call 24; refine (wjoin_is _ _ tc _ HT3.out HM3.out _ F4.out (by simp; omega) (HG.out.below O4.out)).mono ?_; rintro e w5 ⟨rfl, hb5⟩; have O5 := Lib.hid (O4.out.then hb5); clear hb5)
              | (go_at_call 9; refine (shown_any _ (HG.out.below O5.out)).mono ?_; rintro e w6 ⟨rfl, hb6⟩; have O6 := Lib.hid (O5.out.then hb6); clear hb6))
            go_ret
            exact ⟨rfl, O6.out⟩
end Go.Proofs.YtkbbkolanbgajaaDoor

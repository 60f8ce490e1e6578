/- The reference of chapter 1: Lines. -/
import Derived.Test.YtaojogaakhidhaaGreatDoorQ8
namespace Go.Proofs.YtaojogaakhidhaaGreatDoor
open Go.RowKit
open Wd (partsL linesE linesS)

/-- What stands behind i bytes: the lines cut off, and where the next one begins. -/
structure LI (l : List UInt8) (i a : Nat) (xs : List ByteArray) : Prop where
  le : a ≤ i
  cut : xs.map (·.data.toList) ++ partsL 10 (l.drop a) = partsL 10 l
  no : ∀ j, a ≤ j → j < i → l[j]? ≠ some 10
  len : xs.length ≤ a
theorem LI.start (l : List UInt8) : LI l 0 0 [] := ⟨Nat.le_refl _, rfl, fun _ _ h => absurd h (Nat.not_lt_zero _), Nat.le_refl _⟩
theorem LI.skip {l : List UInt8} {i a : Nat} {xs : List ByteArray} (h : LI l i a xs) {c : UInt8} (hc : l[i]? = some c) (h10 : c ≠ 10) : LI l (i + 1) a xs :=
  ⟨by have := h.le; omega, h.cut, fun j h1 h2 => by
    by_cases hj : j = i
    · subst hj; rw [hc]; simpa using h10
    · exact h.no j h1 (by omega), h.len⟩
theorem LI.hit {l : List UInt8} {i a : Nat} {xs : List ByteArray} (h : LI l i a xs) (hc : l[i]? = some 10) {t : ByteArray} (ht : t.data.toList = (l.drop a).take (i - a)) : LI l (i + 1) (i + 1) (xs ++ [t]) := by
  refine ⟨Nat.le_refl _, ?_, fun j h1 h2 => by omega, by have := h.len; have := h.le; simp; omega⟩
  have h1 := h.cut
  rw [Wd.parts_step h.le hc h.no, ← ht] at h1
  rw [← h1]
  simp
theorem LI.done {l : List UInt8} {i a : Nat} {xs : List ByteArray} (h : LI l i a xs) (hi : i = l.length) (hl : l.getLast? = some 10) : xs.map (·.data.toList) = partsL 10 l.dropLast := by
  obtain ⟨m, rfl⟩ := List.getLast?_eq_some_iff.1 hl
  have ha : a = (m ++ [10]).length := by
    have h1 := h.le
    simp only [List.length_append, List.length_singleton] at hi ⊢
    rcases Nat.lt_or_ge a i with h2 | h2
    · exact absurd (by simp) (h.no m.length (by omega) (by omega))
    · omega
  have h1 := h.cut
  rw [ha, List.drop_length, Wd.parts_end] at h1
  rw [List.dropLast_concat]
  exact List.append_inj_left' h1 rfl
theorem ext_mid (s : ByteArray) (a k : Nat) : (s.extract a k).data.toList = (s.data.toList.drop a).take (k - a) := by
  simp [List.extract_eq_take_drop]
theorem last_at (s : ByteArray) (h : 0 < s.size) : s.data.toList.getLast? = some (s[s.size - 1]'(by omega)) := by
  rw [List.getLast?_eq_getElem?, ba_len, ba_at s (s.size - 1) (by omega)]

set_option maxRecDepth 100000 in
set_option maxHeartbeats 2000000 in
theorem rLines_any (s : ByteArray) (w : World) (hs : s.size ≤ 2000000) :
    Calls Tryz.prog 23 #[.string s] w (LnPost s w) := by
  by_cases hbig : 1048576 < s.size
  · have HE : Hid (linesE s.data.toList = 3) := by rw [Hid, linesE, ba_len, if_pos hbig]
    have e1 : (1048576 : Int) < (s.size : Int) := by omega
    clear hbig
    go_enter Tryz.func23, Tryz.ntmps23
    go_wp2
    go_ret2
    unfold LnPost
    rw [HE.out, lines_no HE.out (by decide)]
    exact ⟨_, rfl, .inl ⟨rfl, _, _, rfl⟩, Ow.refl _⟩
  · have e1 : decide ((1048576 : Int) < (s.size : Int)) = false := decide_eq_false (by omega)
    by_cases h0 : s.size = 0
    · have HE : Hid (linesE s.data.toList = 0 ∧ linesS s.data.toList = []) := by rw [ba_nil h0]; exact ⟨rfl, rfl⟩
      have e0 := ba_empty h0
      clear h0 hbig
      go_enter Tryz.func23, Tryz.ntmps23
      go_wp2
      go_ret2
      unfold LnPost
      rw [HE.out.1, HE.out.2]
      exact ⟨_, rfl, .inl ⟨rfl, _, _, rfl⟩, Ow.refl _⟩
    · have hp : 0 < s.size := by omega
      have e0 := ba_full hp
      have HNe : Hid (s.data.toList ≠ []) := by intro e; have := congrArg List.length e; rw [ba_len, List.length_nil] at this; omega
      have HL : Hid (linesE s.data.toList = if s.data.toList.getLast? ≠ some 10 then 6 else if 5000 < (partsL 10 s.data.toList.dropLast).length then 3 else 0) := by
        rw [Hid, linesE, ba_len, if_neg hbig, if_neg HNe.out]
      obtain ⟨m, hm⟩ : ∃ m : Nat, (s[s.size - 1]'(Nat.sub_lt hp Nat.one_pos)).toNat = m := ⟨_, rfl⟩
      have HLa : Hid (s.data.toList.getLast? = some 10 ↔ m = 10) := by
        rw [Hid, last_at s hp, Option.some.injEq, ← hm, ← UInt8.toNat_inj]; rfl
      have hbd : s.size ≤ 1048576 := by omega
      clear hbig h0
      by_cases h10 : m = 10
      · have HLast := Lib.hid (HLa.out.2 h10)
        subst h10
        obtain ⟨i0, hi0, hz0, hz1, hz2⟩ := info_parts Tryz.infoStr
        go_enter Tryz.func23, Tryz.ntmps23
        go_wp2
        clear hm
        go_loopw [4, 5, 6] (fun v f i wr => ∃ (k a : Nat) (xs : List ByteArray), k ≤ s.size ∧ i = .int .i64 k ∧ f = .int .i64 a ∧ a ≤ k ∧ xs.length ≤ a ∧ LI s.data.toList k a xs ∧ wr.ownsRow w.heap.size 9 1 v xs.length (xs.map Value.string) ∧ Ow w wr) (fun _ _ i _ => s.size - (intOf i).toNat)
        case atStart => exact ⟨0, 0, [], by omega, rfl, rfl, by omega, by simp, LI.start _, World.ownsRow_nil _ _ _ _, Ow.refl _⟩
        case round =>
          obtain ⟨k, a, xs, hk, rfl, rfl, hak, hxa, hli, hown, hb⟩ := hrel
          have HLi := Lib.hid hli
          have HO := Lib.hid hown
          have HB := Lib.hid hb
          have hszr : w.heap.size ≤ wr.heap.size := hb.size
          clear hli hown hb
          by_cases hlt : k < s.size
          · obtain ⟨n, hn⟩ : ∃ n : Nat, s[k].toNat = n := ⟨_, rfl⟩
            have el : decide (k < s.size) = true := by simpa using hlt
            by_cases hn10 : n = 10
            · subst hn10
              have HC : Hid (s.data.toList[k]? = some 10) := by rw [Hid, ba_at s k hlt, UInt8.toNat_inj.1 (show s[k].toNat = (10 : UInt8).toNat from hn)]
              have HX := Lib.hid (HLi.out.hit HC.out (ext_mid s a k))
              go_wp2_with (at_builtin; refine wpList_append_own _ rfl _ _ 59 rfl w.heap.size 9 i0 (.string ByteArray.empty) 1 16 Tryz.underlying59 hi0 hz0 hz1 hz2 rfl (by decide) _ xs.length (xs.map Value.string) rfl (HO.out.alloc _) ⟨wr.heap.size, 0, none⟩ 1 1 [.string (s.extract a k)] rfl rfl (cell_one_new _ _ _) (by simp [Value.oneCell']) (by unfold maxLen; omega) (by omega) (by simp; omega) ?_; intro v4 w4 hown4 hgrow4 hnil4)
              go_roundw
              case rel => exact ⟨k + 1, k + 1, xs ++ [s.extract a k], by omega, by go_num, by go_num, by omega, by simp; omega, HX.out, by simpa using hown4, own_after (HO.out.alloc _) hgrow4 (HB.out.alloc _) (Nat.le_refl _)⟩
              case measure => simp [intOf]; omega
            · have e10 : ((n : Int) == 10) = false := by rw [beq_eq_false_iff_ne]; omega
              have HX := Lib.hid (HLi.out.skip (ba_at s k hlt) (fun e => hn10 (by rw [← hn, e]; rfl)))
              clear hn10
              go_wp2
              go_roundw
              case rel => exact ⟨k + 1, a, xs, by omega, by go_num, rfl, by omega, hxa, HX.out, HO.out, HB.out⟩
              case measure => simp [intOf]; omega
          · have el : decide (k < s.size) = false := by simpa using hlt
            have HD := Lib.hid (HLi.out.done (by rw [ba_len]; omega) HLast.out)
            have HDl : Hid ((partsL 10 s.data.toList.dropLast).length = xs.length) := by rw [Hid, ← HD.out, List.length_map]
            have HE : Hid (linesE s.data.toList = if 5000 < xs.length then 3 else 0) := by rw [Hid, HL.out, if_neg (by simpa using HLast.out), HDl.out]
            clear hlt
            rcases Joins.ownsRow_forms HO.out with ⟨rfl, h0⟩ | ⟨g, cap, rfl⟩
            · have HF : Hid (linesE s.data.toList = 0) := by rw [Hid, HE.out, if_neg (by omega)]
              have HS : Hid (linesS s.data.toList = xs.map (·.data.toList)) := by rw [Hid, linesS, if_pos ⟨HF.out, HNe.out⟩, HD.out]
              have HZ := Lib.hid h0
              clear h0
              go_wp2
              go_ret2
              unfold LnPost
              rw [HF.out, HS.out]
              exact ⟨_, rfl, strs_own HO.out rfl, HB.out⟩
            · by_cases h5 : 5000 < xs.length
              · have HF : Hid (linesE s.data.toList = 3) := by rw [Hid, HE.out, if_pos h5]
                go_wp2
                go_ret2
                unfold LnPost
                rw [HF.out, lines_no HF.out (by decide)]
                exact ⟨_, rfl, .inl ⟨rfl, _, _, rfl⟩, HB.out⟩
              · have HF : Hid (linesE s.data.toList = 0) := by rw [Hid, HE.out, if_neg h5]
                have HS : Hid (linesS s.data.toList = xs.map (·.data.toList)) := by rw [Hid, linesS, if_pos ⟨HF.out, HNe.out⟩, HD.out]
                go_wp2
                go_ret2
                unfold LnPost
                rw [HF.out, HS.out]
                exact ⟨_, rfl, strs_own HO.out rfl, HB.out⟩
      · have HF : Hid (linesE s.data.toList = 6) := by rw [Hid, HL.out, if_pos (fun e => h10 (HLa.out.1 e))]
        have e10 : ((m : Int) != 10) = true := by rw [bne_iff_ne]; omega
        clear h10
        go_enter Tryz.func23, Tryz.ntmps23
        go_wp2
        go_ret2
        unfold LnPost
        rw [HF.out, lines_no HF.out (by decide)]
        exact ⟨_, rfl, .inl ⟨rfl, _, _, rfl⟩, Ow.refl _⟩
end Go.Proofs.YtaojogaakhidhaaGreatDoor

/- The reference of chapter 1: less, parts, next. -/
import Derived.Test.YtkbbkolanbgajaaGreatDoorWParW
import Derived.Test.YtkbbkolanbgajaaGreatDoorWRLin
namespace Go.Proofs.YtkbbkolanbgajaaGreatDoor
open Go.RowKit
open Wd (lessB natB valN partsL)

theorem less_is (a b : ByteArray) (r : Bool) (hr : lessB a.data.toList b.data.toList = r) (w : World) :
    Calls Tryz.prog 60 #[.string a, .string b] w fun e w' => e = .returned (.bool r) ∧ w = w' := by
  have HR := Lib.hid hr
  clear hr
  by_cases hl : a.size = b.size
  · have HF : Hid (Op.bytesLess a.toList b.toList = r) := by
      have := HR.out
      unfold Wd.lessB at this
      rwa [if_neg (by rw [ba_len, ba_len]; simpa using hl), ← ba_toList, ← ba_toList] at this
    have e1 : ((a.size : Int) != (b.size : Int)) = false := by rw [bne_eq_false_iff_eq]; omega
    clear hl
    go_enter Tryz.func60, Tryz.ntmps60
    go_wp2
    go_ret
    rw [← HF.out]
    exact ⟨rfl, rfl⟩
  · have HF : Hid (decide (a.size < b.size) = r) := by
      have := HR.out
      unfold Wd.lessB at this
      rwa [if_pos (by rw [ba_len, ba_len]; exact hl), ba_len, ba_len] at this
    have e1 : ((a.size : Int) != (b.size : Int)) = true := by rw [bne_iff_ne]; omega
    clear hl
    go_enter Tryz.func60, Tryz.ntmps60
    go_wp2
    go_ret
    rw [← HF.out]
    exact ⟨retB (by simp), rfl⟩

/-- What stands behind i bytes of parts' loop. -/
structure PI (c : UInt8) (l : List UInt8) (i a : Nat) (xs : List ByteArray) : Prop where
  le : a ≤ i
  cut : xs.map (·.data.toList) ++ partsL c (l.drop a) = partsL c l
  no : ∀ j, a ≤ j → j < i → l[j]? ≠ some c
  len : xs.length ≤ a
theorem PI.skip {c : UInt8} {l : List UInt8} {i a : Nat} {xs : List ByteArray} (h : PI c l i a xs) {d : UInt8} (hc : l[i]? = some d) (hd : d ≠ c) : PI c l (i + 1) a xs :=
  ⟨by have := h.le; omega, h.cut, fun j h1 h2 => by
    by_cases hj : j = i
    · subst hj; rw [hc]; simpa using hd
    · exact h.no j h1 (by omega), h.len⟩
theorem PI.hit {c : UInt8} {l : List UInt8} {i a : Nat} {xs : List ByteArray} (h : PI c l i a xs) (hc : l[i]? = some c) {t : ByteArray} (ht : t.data.toList = (l.drop a).take (i - a)) : PI c l (i + 1) (i + 1) (xs ++ [t]) := by
  refine ⟨Nat.le_refl _, ?_, fun j h1 h2 => by omega, by have := h.len; have := h.le; simp; omega⟩
  have h1 := h.cut
  rw [Wd.parts_step h.le hc h.no, ← ht] at h1
  rw [← h1]
  simp
theorem PI.done {c : UInt8} {l : List UInt8} {i a : Nat} {xs : List ByteArray} (h : PI c l i a xs) (hi : l.length ≤ i) {t : ByteArray} (ht : t.data.toList = l.drop a) : (xs ++ [t]).map (·.data.toList) = partsL c l := by
  have h1 := h.cut
  rw [Wd.parts_last (fun j h2 h3 => h.no j h2 (by omega)), ← ht] at h1
  rw [← h1]; simp
theorem ext_from (s : ByteArray) (a : Nat) : (s.extract a s.size).data.toList = s.data.toList.drop a := by
  rw [ext_mid, List.take_of_length_le]
  rw [List.length_drop, ba_len]; exact Nat.le_refl _
/-- A slice of strings of the call's own. -/
def PtPost (L : List (List UInt8)) (n : Nat) (w : World) (e : Ending) (w' : World) : Prop :=
  ∃ g cap, e = .returned (.slice (some ⟨g, 0, none⟩) n cap) ∧ g < w'.heap.size ∧ (∀ (i : Nat) x, L[i]? = some x → w'.cell? ⟨g, i, none⟩ = some (.string ⟨x.toArray⟩)) ∧ Ow w w'
set_option maxRecDepth 100000 in
set_option maxHeartbeats 2000000 in
theorem parts_is (s : ByteArray) (c : UInt8) (m : Nat) (hm : c.toNat = m) (L : List (List UInt8)) (hL : partsL c s.data.toList = L) (n : Nat) (hn : L.length = n) (w : World) (hs : s.size ≤ 9000) :
    Calls Tryz.prog 58 #[.string s, .int .u8 (m : Int)] w (PtPost L n w) := by
  have HM := Lib.hid hm
  have HLL := Lib.hid hL
  have HN := Lib.hid hn
  clear hm hL hn
  obtain ⟨i0, hi0, hz0, hz1, hz2⟩ := info_parts Tryz.infoStr
  go_enter Tryz.func58, Tryz.ntmps58
  go_wp2
  go_loopw [5, 6, 7] (fun v f i wr => ∃ (k a : Nat) (xs : List ByteArray), k ≤ s.size ∧ i = .int .i64 k ∧ f = .int .i64 a ∧ a ≤ k ∧ xs.length ≤ a ∧ PI c s.data.toList k a xs ∧ wr.ownsRow w.heap.size 9 1 v xs.length (xs.map Value.string) ∧ Ow w wr) (fun _ _ i _ => s.size - (intOf i).toNat)
  case atStart => exact ⟨0, 0, [], by omega, rfl, rfl, by omega, by simp, ⟨Nat.le_refl _, rfl, fun _ _ h => absurd h (Nat.not_lt_zero _), Nat.le_refl _⟩, World.ownsRow_nil _ _ _ _, Ow.refl _⟩
  case round =>
    obtain ⟨k, a, xs, hk, rfl, rfl, hak, hxa, hli, hown, hb⟩ := hrel
    have HLi := Lib.hid hli
    have HO := Lib.hid hown
    have HB := Lib.hid hb
    have hszr : w.heap.size ≤ wr.heap.size := hb.size
    clear hli hown hb
    by_cases hlt : k < s.size
    · obtain ⟨q, hq⟩ : ∃ q : Nat, s[k].toNat = q := ⟨_, rfl⟩
      have el : decide (k < s.size) = true := by simpa using hlt
      by_cases hqm : q = m
      · have HC : Hid (s.data.toList[k]? = some c) := by rw [Hid, ba_at s k hlt, UInt8.toNat_inj.1 (show s[k].toNat = c.toNat by rw [hq, hqm, HM.out])]
        have HX := Lib.hid (HLi.out.hit HC.out (ext_mid s a k))
        subst hqm
        go_wp2_with (at_builtin; refine wpList_append_own _ rfl _ _ 74 rfl w.heap.size 9 i0 (.string ByteArray.empty) 1 16 Tryz.underlying74 hi0 hz0 hz1 hz2 rfl (by decide) _ xs.length (xs.map Value.string) rfl (HO.out.alloc _) ⟨wr.heap.size, 0, none⟩ 1 1 [.string (s.extract a k)] rfl rfl (cell_one_new _ _ _) (by simp [Value.oneCell']) (by unfold maxLen; omega) (by omega) (by simp; omega) ?_; intro v4 w4 hown4 hgrow4 hnil4)
        go_roundw
        case rel => exact ⟨k + 1, k + 1, xs ++ [s.extract a k], by omega, by go_num, by go_num, by omega, by simp; omega, HX.out, by simpa using hown4, own_after (HO.out.alloc _) hgrow4 (HB.out.alloc _) (Nat.le_refl _)⟩
        case measure => simp [intOf]; omega
      · have e10 : ((q : Int) == (m : Int)) = false := by rw [beq_eq_false_iff_ne]; omega
        have HX := Lib.hid (HLi.out.skip (ba_at s k hlt) (fun e => hqm (by rw [← hq, e, HM.out])))
        clear hqm
        go_wp2
        go_roundw
        case rel => exact ⟨k + 1, a, xs, by omega, by go_num, rfl, by omega, hxa, HX.out, HO.out, HB.out⟩
        case measure => simp [intOf]; omega
    · have el : decide (k < s.size) = false := by simpa using hlt
      have HD := Lib.hid (HLi.out.done (by rw [ba_len]; omega) (ext_from s a))
      have HXn : Hid (xs.length + 1 = n) := by
        have := congrArg List.length HD.out
        rw [List.length_map, List.length_append, HLL.out, HN.out] at this
        exact this
      clear hlt
      go_wp2_with (at_builtin; refine wpList_append_own _ rfl _ _ 74 rfl w.heap.size 9 i0 (.string ByteArray.empty) 1 16 Tryz.underlying74 hi0 hz0 hz1 hz2 rfl (by decide) _ xs.length (xs.map Value.string) rfl (HO.out.alloc _) ⟨wr.heap.size, 0, none⟩ 1 1 [.string (s.extract a s.size)] rfl rfl (cell_one_new _ _ _) (by simp [Value.oneCell']) (by unfold maxLen; omega) (by omega) (by simp; omega) ?_; intro v4 w4 hown4 hgrow4 hnil4; have HO4 : Hid (w4.ownsRow w.heap.size 9 1 v4 (xs ++ [s.extract a s.size]).length ((xs ++ [s.extract a s.size]).map Value.string)) := (by rw [Hid]; simpa using hown4); have HB4 : Hid (Ow w w4) := own_after (HO.out.alloc _) hgrow4 (HB.out.alloc _) (Nat.le_refl _); clear hown4 hgrow4 hnil4)
      go_ret
      obtain ⟨g, cap, hv, _, hg, hc⟩ := own_strs HO4.out (by simp)
      refine ⟨g, cap, ?_, hg, fun i x hx => ?_, HB4.out⟩
      · have e : (xs ++ [s.extract a s.size]).length = n := by rw [List.length_append]; exact HXn.out
        rw [e] at hv
        simp only [hv]; rfl
      · rw [← HLL.out, ← HD.out, List.getElem?_map, Option.map_eq_some_iff] at hx
        obtain ⟨y, hy, rfl⟩ := hx
        have := hc i y hy
        rw [Nat.zero_add] at this
        rw [this, ba_mk]
end Go.Proofs.YtkbbkolanbgajaaGreatDoor

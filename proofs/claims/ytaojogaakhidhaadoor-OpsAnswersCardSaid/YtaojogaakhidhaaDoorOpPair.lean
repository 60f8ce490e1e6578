/- Package ops: pair, ParseAnswer. -/
import Derived.Test.YtaojogaakhidhaaDoorOpAns
namespace Go.Proofs.YtaojogaakhidhaaDoor
open Go.RowKit
open Sc (OC OA chkE chkA badA WfA WfC ansT ansS hexL cutA cutB pairV parA paE paA errT yesT noT okT)
open Wd (intE intV)

theorem cut_32 (l : List UInt8) : Lib.cut l [32] = (cutA l, cutB l, l.contains 32) := by
  have h1 : (Lib.cut l [32]).1 = cutA l := cut_word l
  unfold Lib.cut at h1 ⊢
  rcases Lib.index_spec l [32] with ⟨h2, h3⟩ | ⟨i, h2, h3, h4, h5⟩
  · rw [h2, if_neg (by omega)] at h1 ⊢
    have hno : l.contains 32 = false := by
      rw [← Bool.not_eq_true, List.contains_iff_mem]
      intro hx
      obtain ⟨j, hj, e⟩ := List.getElem_of_mem hx
      have := h3 j (by omega)
      rw [(Wd.occ_one l 32 j).2 (List.getElem?_eq_some_iff.2 ⟨hj, e⟩)] at this
      cases this
    have hB : cutB l = [] := by
      unfold cutB
      rw [dw_nil.2 (fun x hx => by rw [bne_iff_ne]; rintro rfl; rw [← List.contains_iff_mem, hno] at hx; cases hx)]
      rfl
    simp only at h1
    rw [hno, hB, ← h1]
  · have hi := (Wd.occ_one l 32 i).1 h4
    have hc : l.contains 32 = true := List.contains_iff_mem.2 (List.mem_of_getElem? hi)
    rw [h2, if_pos (by omega)] at h1 ⊢
    simp only [Int.toNat_natCast] at h1 ⊢
    rw [hc]
    refine Prod.ext h1 (Prod.ext ?_ rfl)
    show l.drop (i + 1) = cutB l
    have hs := Sc.cut_inv hc
    have hl : (cutA l).length = i := by rw [← h1, List.length_take]; have := (List.getElem?_eq_some_iff.1 hi).1; omega
    conv => lhs; rw [hs]
    rw [List.drop_append, hl]
    simp [List.drop_eq_nil_of_le (show (cutA l).length ≤ i + 1 by omega)]
theorem cut32_is (x a b : ByteArray) (f : Bool) (ha : a.data.toList = cutA x.data.toList) (hb : b.data.toList = cutB x.data.toList) (hf : x.data.toList.contains 32 = f) (w : World) (hs : x.size ≤ 9000) (hg : Gl w) :
    Calls Tryd.prog 36 #[.string x, .string ⟨#[32]⟩] w fun e w' => e = .returned (.tuple #[.string a, .string b, .bool f]) ∧ Ow w w' := by
  obtain ⟨m, hm⟩ := hg.max
  refine (Tryd.strings_Cut x ⟨#[32]⟩ m w (by omega) hm).mono fun e1 w1 ⟨h1, h2⟩ => ⟨?_, (Ow.refl w).drawn h2⟩
  rw [h1]
  show Ending.returned (.tuple #[.string ⟨(Lib.cut x.data.toList [32]).1.toArray⟩, .string ⟨(Lib.cut x.data.toList [32]).2.1.toArray⟩, .bool (Lib.cut x.data.toList [32]).2.2]) = _
  rw [cut_32, hf, ← ha, ← hb, ba_mk, ba_mk]
theorem wint_at (s : ByteArray) (lo hi v m : Int) (hv : intV s.data.toList lo hi = v) (hm : intE s.data.toList lo hi = m) (w : World) (hs : s.size ≤ 9000) (hg : Gl w) (he : Ends lo hi) : Calls Tryd.prog 19 #[.string s, .int .i64 lo, .int .i64 hi] w fun e w' => e = .returned (.tuple #[.int .i64 v, .int .i64 m]) ∧ Ow w w' := by
  subst hv hm
  exact int_any s lo hi w hs hg he
theorem intV_in (l : List UInt8) : 0 ≤ intV l 0 31 ∧ intV l 0 31 ≤ 31 := by
  unfold Wd.intV; split
  · rename_i h; exact h.2
  · exact ⟨Int.le_refl _, by omega⟩
/-- Is a line a pair? -/
def pairB (l : List UInt8) : Bool := l.contains 32 && (decide (intE (cutA l) 0 31 = 0) && decide (intE (cutB l) 0 31 = 0))
def pairW (l : List UInt8) : Int := 256 * intV (cutA l) 0 31 + intV (cutB l) 0 31
theorem pair_val (l : List UInt8) : pairV l = if pairB l = true then some (pairW l) else none := by
  unfold Sc.pairV pairB pairW; simp only [Bool.and_eq_true, decide_eq_true_eq]
set_option maxRecDepth 100000 in
set_option maxHeartbeats 2000000 in
theorem pair_no (s : ByteArray) (w : World) (hs : s.size ≤ 9000) (hg : Gl w) (m1 m2 : Int) (hm1 : intE (cutA s.data.toList) 0 31 = m1) (hm2 : intE (cutB s.data.toList) 0 31 = m2) (hf : s.data.toList.contains 32 = false) :
    Calls Tryd.prog 21 #[.string s] w fun e w' => e = .returned (.tuple #[.int .u64 (pairW s.data.toList), .bool false]) ∧ Ow w w' := by
  obtain ⟨a, ha⟩ : ∃ a : ByteArray, a.data.toList = cutA s.data.toList := ⟨⟨(cutA s.data.toList).toArray⟩, rfl⟩
  obtain ⟨b, hb⟩ : ∃ b : ByteArray, b.data.toList = cutB s.data.toList := ⟨⟨(cutB s.data.toList).toArray⟩, rfl⟩
  have has : a.size ≤ 9000 := by rw [← ba_len, ha]; have := (List.takeWhile_sublist (· != 32) (l := s.data.toList)).length_le; rw [ba_len] at this; exact Nat.le_trans this hs
  have hbs : b.size ≤ 9000 := by rw [← ba_len, hb]; have := (List.dropWhile_sublist (· != 32) (l := s.data.toList)).length_le; rw [ba_len] at this; unfold Sc.cutB; rw [List.length_drop]; omega
  obtain ⟨P, hP⟩ : ∃ P, intV (cutA s.data.toList) 0 31 = P := ⟨_, rfl⟩
  obtain ⟨R, hR⟩ : ∃ R, intV (cutB s.data.toList) 0 31 = R := ⟨_, rfl⟩
  have hpi := intV_in (cutA s.data.toList)
  have hri := intV_in (cutB s.data.toList)
  rw [hP] at hpi
  rw [hR] at hri
  have HW : Hid (pairW s.data.toList = 256 * P + R) := by rw [Hid]; unfold pairW; rw [hP, hR]
  rw [← ha] at hP hm1
  rw [← hb] at hR hm2
  have HF := Lib.hid (And.intro ha (And.intro hb hf))
  have HP := Lib.hid (And.intro hP hm1)
  have HR := Lib.hid (And.intro hR hm2)
  have HG := Lib.hid hg
  rw [HW.out]
  clear ha hb hf hP hm1 hR hm2 hg
  go_enter Tryd.func21, Tryd.ntmps21
  go_wp2_with (go_at_call 36; refine (cut32_is s a b _ HF.out.1 HF.out.2.1 HF.out.2.2 _ hs HG.out).mono ?_; rintro e w1 ⟨rfl, hb1⟩)
  (go_at_call 19; refine (wint_at a 0 31 P _ HP.out.1 HP.out.2 _ has (HG.out.below hb1) ⟨by decide, by decide⟩).mono ?_; rintro e w2 ⟨rfl, hb2⟩)
  go_wp2_with fail
  (go_at_call 19; refine (wint_at b 0 31 R _ HR.out.1 HR.out.2 _ hbs (HG.out.below (Ow.then hb1 hb2)) ⟨by decide, by decide⟩).mono ?_; rintro e w3 ⟨rfl, hb3⟩)
  go_wp2_with fail
  go_ret2
  exact ⟨rfl, Ow.then (Ow.then hb1 hb2) hb3⟩
set_option maxRecDepth 100000 in
set_option maxHeartbeats 2000000 in
theorem pair_a (s : ByteArray) (w : World) (hs : s.size ≤ 9000) (hg : Gl w) (m1 m2 : Int) (hm1 : intE (cutA s.data.toList) 0 31 = m1) (hm2 : intE (cutB s.data.toList) 0 31 = m2) (hf : s.data.toList.contains 32 = true) (h1 : m1 ≠ 0) :
    Calls Tryd.prog 21 #[.string s] w fun e w' => e = .returned (.tuple #[.int .u64 (pairW s.data.toList), .bool false]) ∧ Ow w w' := by
  obtain ⟨a, ha⟩ : ∃ a : ByteArray, a.data.toList = cutA s.data.toList := ⟨⟨(cutA s.data.toList).toArray⟩, rfl⟩
  obtain ⟨b, hb⟩ : ∃ b : ByteArray, b.data.toList = cutB s.data.toList := ⟨⟨(cutB s.data.toList).toArray⟩, rfl⟩
  have has : a.size ≤ 9000 := by rw [← ba_len, ha]; have := (List.takeWhile_sublist (· != 32) (l := s.data.toList)).length_le; rw [ba_len] at this; exact Nat.le_trans this hs
  have hbs : b.size ≤ 9000 := by rw [← ba_len, hb]; have := (List.dropWhile_sublist (· != 32) (l := s.data.toList)).length_le; rw [ba_len] at this; unfold Sc.cutB; rw [List.length_drop]; omega
  obtain ⟨P, hP⟩ : ∃ P, intV (cutA s.data.toList) 0 31 = P := ⟨_, rfl⟩
  obtain ⟨R, hR⟩ : ∃ R, intV (cutB s.data.toList) 0 31 = R := ⟨_, rfl⟩
  have hpi := intV_in (cutA s.data.toList)
  have hri := intV_in (cutB s.data.toList)
  rw [hP] at hpi
  rw [hR] at hri
  have HW : Hid (pairW s.data.toList = 256 * P + R) := by rw [Hid]; unfold pairW; rw [hP, hR]
  rw [← ha] at hP hm1
  rw [← hb] at hR hm2
  have HF := Lib.hid (And.intro ha (And.intro hb hf))
  have HP := Lib.hid (And.intro hP hm1)
  have HR := Lib.hid (And.intro hR hm2)
  have HG := Lib.hid hg
  rw [HW.out]
  clear ha hb hf hP hm1 hR hm2 hg
  have n1 : (m1 == 0) = false := beq_eq_false_iff_ne.2 h1
  clear h1
  go_enter Tryd.func21, Tryd.ntmps21
  go_wp2_with (go_at_call 36; refine (cut32_is s a b _ HF.out.1 HF.out.2.1 HF.out.2.2 _ hs HG.out).mono ?_; rintro e w1 ⟨rfl, hb1⟩)
  (go_at_call 19; refine (wint_at a 0 31 P _ HP.out.1 HP.out.2 _ has (HG.out.below hb1) ⟨by decide, by decide⟩).mono ?_; rintro e w2 ⟨rfl, hb2⟩)
  go_wp2_with fail
  (go_at_call 19; refine (wint_at b 0 31 R _ HR.out.1 HR.out.2 _ hbs (HG.out.below (Ow.then hb1 hb2)) ⟨by decide, by decide⟩).mono ?_; rintro e w3 ⟨rfl, hb3⟩)
  go_wp2_with fail
  go_ret2
  exact ⟨rfl, Ow.then (Ow.then hb1 hb2) hb3⟩
set_option maxRecDepth 100000 in
set_option maxHeartbeats 2000000 in
theorem pair_b (s : ByteArray) (w : World) (hs : s.size ≤ 9000) (hg : Gl w) (m1 m2 : Int) (hm1 : intE (cutA s.data.toList) 0 31 = m1) (hm2 : intE (cutB s.data.toList) 0 31 = m2) (hf : s.data.toList.contains 32 = true) (h1 : m1 = 0) (h2 : m2 ≠ 0) :
    Calls Tryd.prog 21 #[.string s] w fun e w' => e = .returned (.tuple #[.int .u64 (pairW s.data.toList), .bool false]) ∧ Ow w w' := by
  obtain ⟨a, ha⟩ : ∃ a : ByteArray, a.data.toList = cutA s.data.toList := ⟨⟨(cutA s.data.toList).toArray⟩, rfl⟩
  obtain ⟨b, hb⟩ : ∃ b : ByteArray, b.data.toList = cutB s.data.toList := ⟨⟨(cutB s.data.toList).toArray⟩, rfl⟩
  have has : a.size ≤ 9000 := by rw [← ba_len, ha]; have := (List.takeWhile_sublist (· != 32) (l := s.data.toList)).length_le; rw [ba_len] at this; exact Nat.le_trans this hs
  have hbs : b.size ≤ 9000 := by rw [← ba_len, hb]; have := (List.dropWhile_sublist (· != 32) (l := s.data.toList)).length_le; rw [ba_len] at this; unfold Sc.cutB; rw [List.length_drop]; omega
  obtain ⟨P, hP⟩ : ∃ P, intV (cutA s.data.toList) 0 31 = P := ⟨_, rfl⟩
  obtain ⟨R, hR⟩ : ∃ R, intV (cutB s.data.toList) 0 31 = R := ⟨_, rfl⟩
  have hpi := intV_in (cutA s.data.toList)
  have hri := intV_in (cutB s.data.toList)
  rw [hP] at hpi
  rw [hR] at hri
  have HW : Hid (pairW s.data.toList = 256 * P + R) := by rw [Hid]; unfold pairW; rw [hP, hR]
  rw [← ha] at hP hm1
  rw [← hb] at hR hm2
  have HF := Lib.hid (And.intro ha (And.intro hb hf))
  have HP := Lib.hid (And.intro hP hm1)
  have HR := Lib.hid (And.intro hR hm2)
  have HG := Lib.hid hg
  rw [HW.out]
  clear ha hb hf hP hm1 hR hm2 hg
  subst h1
  have n2 : (m2 == 0) = false := beq_eq_false_iff_ne.2 h2
  clear h2
  go_enter Tryd.func21, Tryd.ntmps21
  go_wp2_with (go_at_call 36; refine (cut32_is s a b _ HF.out.1 HF.out.2.1 HF.out.2.2 _ hs HG.out).mono ?_; rintro e w1 ⟨rfl, hb1⟩)
  (go_at_call 19; refine (wint_at a 0 31 P _ HP.out.1 HP.out.2 _ has (HG.out.below hb1) ⟨by decide, by decide⟩).mono ?_; rintro e w2 ⟨rfl, hb2⟩)
  go_wp2_with fail
  (go_at_call 19; refine (wint_at b 0 31 R _ HR.out.1 HR.out.2 _ hbs (HG.out.below (Ow.then hb1 hb2)) ⟨by decide, by decide⟩).mono ?_; rintro e w3 ⟨rfl, hb3⟩)
  go_wp2_with fail
  go_ret2
  exact ⟨rfl, Ow.then (Ow.then hb1 hb2) hb3⟩
set_option maxRecDepth 100000 in
set_option maxHeartbeats 2000000 in
theorem pair_ok (s : ByteArray) (w : World) (hs : s.size ≤ 9000) (hg : Gl w) (m1 m2 : Int) (hm1 : intE (cutA s.data.toList) 0 31 = m1) (hm2 : intE (cutB s.data.toList) 0 31 = m2) (hf : s.data.toList.contains 32 = true) (h1 : m1 = 0) (h2 : m2 = 0) :
    Calls Tryd.prog 21 #[.string s] w fun e w' => e = .returned (.tuple #[.int .u64 (pairW s.data.toList), .bool true]) ∧ Ow w w' := by
  obtain ⟨a, ha⟩ : ∃ a : ByteArray, a.data.toList = cutA s.data.toList := ⟨⟨(cutA s.data.toList).toArray⟩, rfl⟩
  obtain ⟨b, hb⟩ : ∃ b : ByteArray, b.data.toList = cutB s.data.toList := ⟨⟨(cutB s.data.toList).toArray⟩, rfl⟩
  have has : a.size ≤ 9000 := by rw [← ba_len, ha]; have := (List.takeWhile_sublist (· != 32) (l := s.data.toList)).length_le; rw [ba_len] at this; exact Nat.le_trans this hs
  have hbs : b.size ≤ 9000 := by rw [← ba_len, hb]; have := (List.dropWhile_sublist (· != 32) (l := s.data.toList)).length_le; rw [ba_len] at this; unfold Sc.cutB; rw [List.length_drop]; omega
  obtain ⟨P, hP⟩ : ∃ P, intV (cutA s.data.toList) 0 31 = P := ⟨_, rfl⟩
  obtain ⟨R, hR⟩ : ∃ R, intV (cutB s.data.toList) 0 31 = R := ⟨_, rfl⟩
  have hpi := intV_in (cutA s.data.toList)
  have hri := intV_in (cutB s.data.toList)
  rw [hP] at hpi
  rw [hR] at hri
  have HW : Hid (pairW s.data.toList = 256 * P + R) := by rw [Hid]; unfold pairW; rw [hP, hR]
  rw [← ha] at hP hm1
  rw [← hb] at hR hm2
  have HF := Lib.hid (And.intro ha (And.intro hb hf))
  have HP := Lib.hid (And.intro hP hm1)
  have HR := Lib.hid (And.intro hR hm2)
  have HG := Lib.hid hg
  rw [HW.out]
  clear ha hb hf hP hm1 hR hm2 hg
  subst h1 h2
  go_enter Tryd.func21, Tryd.ntmps21
  go_wp2_with (go_at_call 36; refine (cut32_is s a b _ HF.out.1 HF.out.2.1 HF.out.2.2 _ hs HG.out).mono ?_; rintro e w1 ⟨rfl, hb1⟩)
  (go_at_call 19; refine (wint_at a 0 31 P _ HP.out.1 HP.out.2 _ has (HG.out.below hb1) ⟨by decide, by decide⟩).mono ?_; rintro e w2 ⟨rfl, hb2⟩)
  go_wp2_with fail
  (go_at_call 19; refine (wint_at b 0 31 R _ HR.out.1 HR.out.2 _ hbs (HG.out.below (Ow.then hb1 hb2)) ⟨by decide, by decide⟩).mono ?_; rintro e w3 ⟨rfl, hb3⟩)
  go_wp2_with fail
  go_ret2
  exact ⟨rfl, Ow.then (Ow.then hb1 hb2) hb3⟩
theorem pair_any (s : ByteArray) (V : Int) (b : Bool) (hV : pairW s.data.toList = V) (hb : pairB s.data.toList = b) (w : World) (hs : s.size ≤ 9000) (hg : Gl w) :
    Calls Tryd.prog 21 #[.string s] w fun e w' => e = .returned (.tuple #[.int .u64 V, .bool b]) ∧ Ow w w' := by
  subst hV hb
  unfold pairB
  cases hf : s.data.toList.contains 32 with
  | false => exact pair_no s w hs hg _ _ rfl rfl hf
  | true =>
    by_cases h1 : intE (cutA s.data.toList) 0 31 = 0
    · rw [decide_eq_true h1]
      by_cases h2 : intE (cutB s.data.toList) 0 31 = 0
      · rw [decide_eq_true h2]; exact pair_ok s w hs hg _ _ rfl rfl hf h1 h2
      · rw [decide_eq_false h2]; exact pair_b s w hs hg _ _ rfl rfl hf h1 h2
    · rw [decide_eq_false h1]; exact pair_a s w hs hg _ _ rfl rfl hf h1
end Go.Proofs.YtaojogaakhidhaaDoor

/- Package words' Int and strings.Split over the facts on globals that they use. -/
import Derived.Test.YtabopillicdjaaaGreatDoorWDec
import Derived.Test.YtabopillicdjaaaGreatDoorWStrs
namespace Go.Proofs.YtabopillicdjaaaGreatDoor
open Go.RowKit
open Wd (digB decimalB decVal intV intE partsL)

/-- What Int and Split use of the package-level variables. -/
structure Gn (w : World) : Prop where
  rng : ∃ tp p, w.var? Tryz.prog "strconv.ErrRange" = some #[.iface tp p]
  max : ∃ m : Int, w.cell? ⟨1, 0, none⟩ = some (.int .i64 m)
theorem Gn.below {w w' : World} (h : Gn w) (hb : Below w.heap.size w w') : Gn w' := by
  obtain ⟨tp, p, hr⟩ := h.rng
  obtain ⟨m, hm⟩ := h.max
  refine ⟨⟨tp, p, ?_⟩, ⟨m, ?_⟩⟩
  · exact var?_below hb (show Tryz.prog.globalNamed "strconv.ErrRange" = some 3 by kernel_rfl) (lt_of_cell (o := 0) (v := .iface tp p) (by have := World.var?_cell (show Tryz.prog.globalNamed "strconv.ErrRange" = some 3 by kernel_rfl) hr 0; simpa using this)) hr
  · exact (hb.cell (lt_of_cell hm)).trans hm
theorem pInt_badN (s : ByteArray) (h : Lib.parseIntB 64 s.data.toList = .range) (w : World) (hs : s.size ≤ 9000) (hg : Gn w) :
    Calls Tryz.prog 40 #[.string s, .int .i64 10, .int .i64 64] w fun e w' => (∃ (a : Int) (T : TypeId) (N : Nat), e = .returned (.tuple #[.int .i64 a, .iface T (.pointer (some ⟨N, 0, none⟩))])) ∧ Below w.heap.size w w' := by
  obtain ⟨tp, p, hr⟩ := hg.rng
  exact (Tryz.strconv_ParseInt_10_at64_range_var s (by omega) h tp p w hr).mono fun e w' ⟨N, h1, _, _, h4⟩ => ⟨⟨_, _, N, h1⟩, h4⟩
set_option maxHeartbeats 1000000 in
theorem int_anyN (s : ByteArray) (lo hi : Int) (w : World) (hs : s.size ≤ 9000) (hg : Gn w) (he : Ends lo hi) :
    Calls Tryz.prog 15 #[.string s, .int .i64 lo, .int .i64 hi] w (IPost s lo hi w) := by
  have HG := Lib.hid hg
  have HE := Lib.hid he
  clear hg he
  cases hd : decimalB s.data.toList with
  | false =>
    have HD := Lib.hid hd
    have HF : Hid (intV s.data.toList lo hi = 0 ∧ intE s.data.toList lo hi = 6) := by simp [Hid, intV, intE, hd]
    clear hd
    go_enter Tryz.func15, Tryz.ntmps15
    go_wp2_with (go_at_call 36; refine (isDecimal_is _ _ HD.out _ hs).mono ?_; rintro e w2 ⟨rfl, hb2⟩)
    go_ret2
    unfold IPost
    rw [HF.out.1, HF.out.2]
    exact ⟨rfl, hb2⟩
  | true =>
    have HD := Lib.hid hd
    have HP := Lib.hid (Wd.parseInt_dec hd)
    obtain ⟨v, hv⟩ : ∃ v, decVal s.data.toList = v := ⟨_, rfl⟩
    have HV := Lib.hid hv
    clear hd hv
    by_cases hr : lo ≤ v ∧ v ≤ hi
    · have HQ : Hid (Lib.parseIntB 64 s.data.toList = .ok v) := by
        have := HP.out
        rw [HV.out, if_pos (by have := HE.out; unfold Ends at this; omega)] at this
        exact this
      have HF : Hid (intV s.data.toList lo hi = v ∧ intE s.data.toList lo hi = 0) := by simp [Hid, intV, intE, HD.out, HV.out, hr]
      obtain ⟨h1, h2⟩ := hr
      have g1 : ¬ v < lo := by omega
      have g2 : ¬ hi < v := by omega
      go_enter Tryz.func15, Tryz.ntmps15
      go_wp2_with (first | (go_at_call 36; refine (isDecimal_is _ _ HD.out _ hs).mono ?_; rintro e w2 ⟨rfl, hb2⟩) | (go_at_call 40; refine (pInt_ok _ _ HQ.out _ hs).mono ?_; rintro e w3 ⟨rfl, hb3⟩))
      go_ret2
      unfold IPost
      rw [HF.out.1, HF.out.2]
      exact ⟨rfl, Ow.then hb2 hb3⟩
    · have HF : Hid (intV s.data.toList lo hi = 0 ∧ intE s.data.toList lo hi = 7) := by
        refine ⟨?_, ?_⟩
        · unfold intV; rw [if_neg]; rintro ⟨_, h⟩; rw [HV.out] at h; exact hr h
        · unfold intE; rw [if_pos HD.out, if_neg]; rw [HV.out]; exact hr
      by_cases hin : -9223372036854775808 ≤ v ∧ v ≤ 9223372036854775807
      · have HQ : Hid (Lib.parseIntB 64 s.data.toList = .ok v) := by
          have := HP.out
          rw [HV.out, if_pos hin] at this
          exact this
        clear hin
        by_cases hlo : v < lo
        · clear hr
          go_enter Tryz.func15, Tryz.ntmps15
          go_wp2_with (first | (go_at_call 36; refine (isDecimal_is _ _ HD.out _ hs).mono ?_; rintro e w2 ⟨rfl, hb2⟩) | (go_at_call 40; refine (pInt_ok _ _ HQ.out _ hs).mono ?_; rintro e w3 ⟨rfl, hb3⟩))
          go_ret2
          unfold IPost
          rw [HF.out.1, HF.out.2]
          exact ⟨rfl, Ow.then hb2 hb3⟩
        · have hhi : hi < v := by omega
          clear hr
          go_enter Tryz.func15, Tryz.ntmps15
          go_wp2_with (first | (go_at_call 36; refine (isDecimal_is _ _ HD.out _ hs).mono ?_; rintro e w2 ⟨rfl, hb2⟩) | (go_at_call 40; refine (pInt_ok _ _ HQ.out _ hs).mono ?_; rintro e w3 ⟨rfl, hb3⟩))
          go_ret2
          unfold IPost
          rw [HF.out.1, HF.out.2]
          exact ⟨rfl, Ow.then hb2 hb3⟩
      · have HQ : Hid (Lib.parseIntB 64 s.data.toList = .range) := by
          have := HP.out
          rw [HV.out, if_neg hin] at this
          exact this
        clear hin hr
        go_enter Tryz.func15, Tryz.ntmps15
        go_wp2_with (first | (go_at_call 36; refine (isDecimal_is _ _ HD.out _ hs).mono ?_; rintro e w2 ⟨rfl, hb2⟩) | (go_at_call 40; refine (pInt_badN _ HQ.out _ hs (HG.out.below hb2)).mono ?_; rintro e w3 ⟨⟨a, T, N, rfl⟩, hb3⟩))
        go_ret2
        unfold IPost
        rw [HF.out.1, HF.out.2]
        exact ⟨rfl, Ow.then hb2 hb3⟩

/-- strings.Split at one byte. -/
theorem split_isN (s : ByteArray) (c : UInt8) (L : List (List UInt8)) (hL : partsL c s.data.toList = L) (n : Nat) (hn : L.length = n) (w : World) (hs : s.size ≤ 2000000) (hg : Gn w) :
    Calls Tryz.prog 34 #[.string s, .string ⟨#[c]⟩] w fun e w' => e = .returned (.slice (some ⟨w.heap.size, 0, none⟩) n n) ∧ StrsA w' (.slice (some ⟨w.heap.size, 0, none⟩) n n) L ∧ Ow w w' := by
  subst hn hL
  obtain ⟨m, hm⟩ := hg.max
  have hd : (Lib.splitB ⟨#[c]⟩ 0 (Lib.countB s ⟨#[c]⟩) s).map (·.data.toList) = partsL c s.data.toList := by
    rw [Lib.splitB_data]
    exact Wd.split_parts c s.data.toList
  have hl := Lib.splitB_all ⟨#[c]⟩ (by show 1 ≤ 1; omega) 0 _ s rfl
  have hl2 : Lib.countB s ⟨#[c]⟩ + 1 = (partsL c s.data.toList).length := by rw [← hd, List.length_map, hl]
  refine (Tryz.strings_Split s ⟨#[c]⟩ m w (by omega) hm (by show 1 ≤ 1; omega)).mono fun e w' ⟨h1, h2⟩ => ⟨by rw [h1, hl2], ?_, by rw [h2]; exact (Ow.refl _).alloc _⟩
  subst h2
  refine .inr ⟨Wd.parts_ne _ _, w.heap.size, 0, _, rfl, by simp, fun i x hx => ?_⟩
  rw [cell_of_row _ _ (0 + i) _ _ _ (heap_alloc_new w _), Nat.zero_add]
  rw [← hd, List.getElem?_map, Option.map_eq_some_iff] at hx
  obtain ⟨y, hy, rfl⟩ := hx
  rw [ba_mk]
  simp [hy]
end Go.Proofs.YtabopillicdjaaaGreatDoor

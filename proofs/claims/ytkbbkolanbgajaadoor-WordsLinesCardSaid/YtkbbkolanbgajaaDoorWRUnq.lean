/- The reference of chapter 1: Unquote. -/
import Derived.Test.YtkbbkolanbgajaaDoorWRSpl
namespace Go.Proofs.YtkbbkolanbgajaaDoor
open Go.RowKit
open Wd (unqS unqN unquoteS unquoteE)

def RUPost (s : ByteArray) (w : World) (e : Ending) (w' : World) : Prop := e = .returned (.tuple #[.string ⟨(unquoteS s.data.toList).toArray⟩, .int .i64 (unquoteE s.data.toList)]) ∧ Ow w w'
set_option maxRecDepth 100000 in
set_option maxHeartbeats 1000000 in
theorem runquote_any (s : ByteArray) (w : World) (hs : s.size ≤ 9000) :
    Calls Tryd.prog 20 #[.string s] w (RUPost s w) := by
  obtain ⟨n, hn⟩ : ∃ n, unqN s.data.toList = n := ⟨_, rfl⟩
  obtain ⟨t, ht⟩ : ∃ t : ByteArray, t.data.toList = unqS s.data.toList := ⟨⟨(unqS s.data.toList).toArray⟩, rfl⟩
  have HN := Lib.hid hn
  have HT := Lib.hid ht
  by_cases h0 : n = 0
  · have HF : Hid (unquoteS s.data.toList = [] ∧ unquoteE s.data.toList = 6) := by
      simp only [Hid, unquoteS, unquoteE, hn]
      rw [if_neg (fun h => h.1 h0), if_neg (fun h => h.1 h0)]; exact ⟨rfl, rfl⟩
    have e0 : ((n : Int) == 0) = true := by rw [beq_iff_eq]; omega
    clear hn ht h0
    go_enter Tryd.func20, Tryd.ntmps20
    go_wp2_with (go_at_call 29; refine (rquoted_is _ _ _ HT.out HN.out _ hs).mono ?_; rintro e w2 ⟨rfl, hb2⟩)
    go_ret2
    unfold RUPost
    rw [HF.out.1, HF.out.2]
    exact ⟨rfl, hb2⟩
  · have e0 : ((n : Int) == 0) = false := by rw [beq_eq_false_iff_ne]; omega
    by_cases hl : n = s.size
    · have HF : Hid (unquoteS s.data.toList = t.data.toList ∧ unquoteE s.data.toList = 0) := by
        have h : unqN s.data.toList ≠ 0 ∧ unqN s.data.toList = s.data.toList.length := ⟨by rw [hn]; exact h0, by rw [hn, ba_len]; exact hl⟩
        simp only [Hid, unquoteS, unquoteE]
        rw [if_pos h, if_pos h, ht]; exact ⟨rfl, rfl⟩
      have e1 : ((n : Int) != (s.size : Int)) = false := by rw [bne_eq_false_iff_eq]; omega
      clear hn ht h0 hl
      go_enter Tryd.func20, Tryd.ntmps20
      go_wp2_with (go_at_call 29; refine (rquoted_is _ _ _ HT.out HN.out _ hs).mono ?_; rintro e w2 ⟨rfl, hb2⟩)
      go_ret2
      unfold RUPost
      rw [HF.out.1, HF.out.2, ba_mk]
      exact ⟨rfl, hb2⟩
    · have HF : Hid (unquoteS s.data.toList = [] ∧ unquoteE s.data.toList = 6) := by
        have h : ¬ (unqN s.data.toList ≠ 0 ∧ unqN s.data.toList = s.data.toList.length) := fun h => hl (by rw [← hn, h.2, ba_len])
        simp only [Hid, unquoteS, unquoteE]
        rw [if_neg h, if_neg h]; exact ⟨rfl, rfl⟩
      have e1 : ((n : Int) != (s.size : Int)) = true := by rw [bne_iff_ne]; omega
      clear hn ht h0 hl
      go_enter Tryd.func20, Tryd.ntmps20
      go_wp2_with (go_at_call 29; refine (rquoted_is _ _ _ HT.out HN.out _ hs).mono ?_; rintro e w2 ⟨rfl, hb2⟩)
      go_ret2
      unfold RUPost
      rw [HF.out.1, HF.out.2]
      exact ⟨rfl, hb2⟩
end Go.Proofs.YtkbbkolanbgajaaDoor

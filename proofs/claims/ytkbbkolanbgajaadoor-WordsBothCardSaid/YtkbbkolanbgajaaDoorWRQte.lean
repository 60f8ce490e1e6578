/- The reference of chapter 1: Quote. -/
import Derived.Test.YtkbbkolanbgajaaDoorWRUnq
import Derived.Lib.AppendStr
import Derived.Laws.OwnMore
namespace Go.Proofs.YtkbbkolanbgajaaDoor
open Go.RowKit
open Wd (escB quoteL)

theorem quote_at (l : List UInt8) : quoteL l = (34 :: l.flatMap escB) ++ [34] := by simp [quoteL]
theorem strCells_esc (f : ByteArray) (l : List UInt8) (h : f.data.toList = l) : Lib.strCells f = Lib.byteCells l := by
  subst h; first | rfl | simp [Lib.strCells, Lib.byteCells]
theorem qt_step {s : ByteArray} {k : Nat} (hk : k < s.size) : (34 :: (s.data.toList.take k).flatMap escB) ++ escB s[k] = 34 :: (s.data.toList.take (k + 1)).flatMap escB := by
  rw [List.take_add_one, ba_at s k hk, Option.toList_some, List.flatMap_append]
  simp
theorem qt_len (l : List UInt8) : (l.flatMap escB).length ≤ 4 * l.length := by
  induction l with
  | nil => simp
  | cons c l ih => have := esc_max c; rw [List.flatMap_cons, List.length_append, List.length_cons]; omega
def QtPost (s : ByteArray) (w : World) (e : Ending) (w' : World) : Prop := e = .returned (.string ⟨(quoteL s.data.toList).toArray⟩) ∧ Ow w w'
set_option maxRecDepth 100000 in
set_option maxHeartbeats 2000000 in
theorem rquote_any (s : ByteArray) (w : World) (hs : s.size ≤ 9000) :
    Calls Tryd.prog 22 #[.string s] w (QtPost s w) := by
  obtain ⟨i0, hi0, hz0, hz1, hz2⟩ := info_parts Tryd.infoU8
  go_enter Tryd.func22, Tryd.ntmps22
  go_wp2
  go_loopw [3, 4] (fun v i wr => ∃ (k : Nat) (bs : List UInt8), k ≤ s.size ∧ i = .int .i64 k ∧ bs = 34 :: (s.data.toList.take k).flatMap escB ∧ bs.length ≤ 4 * k + 1 ∧ wr.ownsRow w.heap.size 5 1 v bs.length (Lib.byteCells bs) ∧ Below w.heap.size w wr) (fun _ i _ => s.size - (intOf i).toNat)
  case atStart => exact ⟨0, [34], by omega, rfl, by simp, by simp, World.ownsRow_lit (base := w.heap.size) (e := 5) (size := 1) w #[.int .u8 34] 1 (Nat.le_refl _) (by decide) rfl, (Ow.refl _).alloc _⟩
  case round =>
    obtain ⟨k, bs, hk, rfl, hbs, hbl, hown, hb⟩ := hrel
    have HO := Lib.hid hown
    have HB := Lib.hid hb
    have HBs := Lib.hid hbs
    have hszr : w.heap.size ≤ wr.heap.size := hb.size
    clear hown hb hbs
    by_cases hlt : k < s.size
    · obtain ⟨n, hn⟩ : ∃ n : Nat, s[k].toNat = n := ⟨_, rfl⟩
      have HN := Lib.hid hn
      have el : decide (k < s.size) = true := by simpa using hlt
      obtain ⟨f, hf⟩ : ∃ f : ByteArray, f.data.toList = escB s[k] := ⟨⟨(escB s[k]).toArray⟩, rfl⟩
      have HF := Lib.hid hf
      have hf4 : f.size ≤ 4 := by rw [← ba_len, hf]; exact esc_max _
      have HSt := Lib.hid (qt_step hlt)
      clear hf
      go_wp2_with (first
        | (go_at_call 41; refine (escaped_is _ _ HN.out f HF.out _).mono ?_; rintro e w2 ⟨rfl, hb2⟩; have HO2 := Lib.hid (own_then HO.out hb2); have hsz2 : w.heap.size ≤ w2.heap.size := Nat.le_trans hszr hb2.size)
        | (at_builtin; refine Lib.wpList_append_own_string _ rfl _ _ 38 9 rfl w.heap.size 5 i0 Tryd.underlying38 Tryd.underlying9 hi0 hz0 hz1 hz2 _ bs.length (Lib.byteCells bs) rfl HO2.out f rfl (by unfold maxLen; omega) (by omega) (by omega) ?_; intro v' w1 hown1 hgrow hnil))
      go_roundw
      case rel => exact ⟨k + 1, bs ++ escB s[k], by omega, by go_num, by rw [HBs.out, HSt.out], by rw [List.length_append, ← HF.out, ba_len]; omega, by rw [strCells_esc f _ HF.out] at hown1; rw [List.length_append, ← HF.out, ba_len, HF.out]; simpa [Lib.byteCells] using hown1, own_after HO2.out hgrow (HB.out.trans (hb2.mono HB.out.size)) (Nat.le_refl _)⟩
      case measure => simp [intOf]; omega
    · have el : decide (k < s.size) = false := by simpa using hlt
      have HE : Hid (quoteL s.data.toList = bs ++ [34]) := by
        have := HBs.out
        rw [List.take_of_length_le (by rw [ba_len]; omega)] at this
        rw [Hid, quote_at, this]
      go_wp2_with (at_builtin; refine wpList_append_own _ rfl _ _ 38 rfl w.heap.size 5 i0 (.int .u8 0) 1 1 Tryd.underlying38 hi0 hz0 hz1 hz2 rfl (by decide) _ bs.length (Lib.byteCells bs) rfl (HO.out.alloc _) ⟨wr.heap.size, 0, none⟩ 1 1 [.int .u8 34] rfl rfl (cell_one_new _ _ _) (by simp [Value.oneCell']) (by unfold maxLen; omega) (by omega) (by simp; omega) ?_; intro v' w1 hown1 hgrow hnil; have hcv := own_conv (bs := bs ++ [34]) w1 38 9 5 Tryd.underlying38 Tryd.underlying5 Tryd.underlying9 (by simpa [Lib.byteCells] using hown1))
      go_ret
      unfold QtPost
      rw [HE.out]
      exact ⟨rfl, own_after (HO.out.alloc _) hgrow (HB.out.alloc (by omega) _) (Nat.le_refl _)⟩
end Go.Proofs.YtkbbkolanbgajaaDoor

/- The reference's Same, at equal lists; the calls that every statement of chapter 1 shows. -/
import Derived.Test.YtabopillicdjaaaGreatDoorWSpl
import Derived.Test.YtabopillicdjaaaGreatDoorWLstW
namespace Go.Proofs.YtabopillicdjaaaGreatDoor
open Go.RowKit

/-- A slice of fields that lies in memory. -/
def Flds (w : World) (v : Value) (fs : List (List UInt8 × Bool)) : Prop :=
  (v = .slice none 0 0 ∧ fs = []) ∨ ∃ g off cap, v = .slice (some ⟨g, off, none⟩) fs.length cap ∧ g < w.heap.size ∧ ∀ (i : Nat) x, fs[i]? = some x → w.cell? ⟨g, off + i * 2, none⟩ = some (.string ⟨x.1.toArray⟩) ∧ w.cell? ⟨g, off + i * 2 + 1, none⟩ = some (.bool x.2)
theorem Flds.then {w w' : World} {v : Value} {fs : List (List UInt8 × Bool)} (h : Flds w v fs) (hb : Ow w w') : Flds w' v fs := by
  rcases h with h | ⟨g, off, cap, h1, h2, h3⟩
  · exact .inl h
  · exact .inr ⟨g, off, cap, h1, Nat.lt_of_lt_of_le h2 hb.size, fun i x hx => ⟨(hb.cell (p := ⟨g, off + i * 2, none⟩) h2).trans (h3 i x hx).1, (hb.cell (p := ⟨g, off + i * 2 + 1, none⟩) h2).trans (h3 i x hx).2⟩⟩
theorem cellsF_at : ∀ (fs : List (List UInt8 × Bool)) (i : Nat) (x : List UInt8 × Bool), fs[i]? = some x → (cellsF fs)[i * 2]? = some (.string ⟨x.1.toArray⟩) ∧ (cellsF fs)[i * 2 + 1]? = some (.bool x.2)
  | [], i, x, h => by simp at h
  | y :: fs, 0, x, h => by
    simp only [List.getElem?_cons_zero, Option.some.injEq] at h
    subst h
    exact ⟨rfl, rfl⟩
  | y :: fs, i + 1, x, h => by
    have := cellsF_at fs i x (by simpa using h)
    rw [show (i + 1) * 2 = i * 2 + 2 by omega, show i * 2 + 2 + 1 = i * 2 + 1 + 2 by omega]
    exact this
theorem flds_own {w : World} {base : Nat} {v : Value} {fs : List (List UInt8 × Bool)} (h : w.ownsRow base 51 2 v fs.length (cellsF fs)) : Flds w v fs := by
  rcases Joins.ownsRow_forms h with ⟨rfl, h0⟩ | ⟨g, cap, rfl⟩
  · exact .inl ⟨rfl, List.length_eq_zero_iff.1 h0⟩
  · refine .inr ⟨g, 0, cap, rfl, (h.lt g rfl).2, fun i x hx => ?_⟩
    have hi := (List.getElem?_eq_some_iff.1 hx).1
    obtain ⟨h1, h2⟩ := cellsF_at fs i x hx
    rw [Nat.zero_add, h.cellAt (i * 2) (by omega), h.cellAt (i * 2 + 1) (by omega)]
    exact ⟨h1, h2⟩

set_option maxRecDepth 100000 in
set_option maxHeartbeats 2000000 in
theorem same_true (va vb : Value) (fs : List (List UInt8 × Bool)) (w : World) (ha : Flds w va fs) (hb : Flds w vb fs) (hn : fs.length ≤ 100000) :
    Calls Tryz.prog 9 #[va, vb] w fun e w' => e = .returned (.bool true) ∧ Ow w w' := by
  by_cases h0 : fs = []
  · subst h0
    obtain ⟨aa, ca, rfl⟩ : ∃ aa ca, va = .slice aa 0 ca := by
      rcases ha with ⟨rfl, _⟩ | ⟨g, off, cap, rfl, _⟩
      · exact ⟨_, _, rfl⟩
      · exact ⟨_, _, rfl⟩
    obtain ⟨ab, cb, rfl⟩ : ∃ aa ca, vb = .slice aa 0 ca := by
      rcases hb with ⟨rfl, _⟩ | ⟨g, off, cap, rfl, _⟩
      · exact ⟨_, _, rfl⟩
      · exact ⟨_, _, rfl⟩
    clear ha hb hn
    go_enter Tryz.func9, Tryz.ntmps9
    go_wp2
    go_loop [5] (fun i => i = .int .i64 0) (fun _ => 0)
    case atStart => exact rfl
    case round =>
      obtain rfl := hrel
      go_wp2
      go_ret
      exact ⟨rfl, Ow.refl _⟩
  · have ha' := ha.resolve_left (fun e => h0 e.2)
    have hb' := hb.resolve_left (fun e => h0 e.2)
    obtain ⟨g, off, cap, rfl, hg, hca⟩ := ha'
    obtain ⟨g2, off2, cap2, rfl, hg2, hcb⟩ := hb'
    have HA := Lib.hid hca
    have HB := Lib.hid hcb
    clear ha hb hca hcb h0
    go_enter Tryz.func9, Tryz.ntmps9
    go_wp2
    go_loopw [5] (fun i wr => ∃ k : Nat, k ≤ fs.length ∧ i = .int .i64 k ∧ Ow w wr) (fun i _ => fs.length - (intOf i).toNat)
    case atStart => exact ⟨0, by omega, rfl, Ow.refl _⟩
    case round =>
      obtain ⟨k, hk, rfl, hw⟩ := hrel
      have HW := Lib.hid hw
      clear hw
      by_cases hlt : k < fs.length
      · obtain ⟨⟨S, q⟩, hx⟩ : ∃ x, fs[k]? = some x := ⟨fs[k], List.getElem?_eq_getElem hlt⟩
        have a0 : wr.cell? ⟨g, off + k * 2, none⟩ = some (.string ⟨S.toArray⟩) := (HW.out.cell (p := ⟨g, off + k * 2, none⟩) hg).trans (HA.out k _ hx).1
        have a1 : wr.cell? ⟨g, off + k * 2 + 1, none⟩ = some (.bool q) := (HW.out.cell (p := ⟨g, off + k * 2 + 1, none⟩) hg).trans (HA.out k _ hx).2
        have b0 : wr.cell? ⟨g2, off2 + k * 2, none⟩ = some (.string ⟨S.toArray⟩) := (HW.out.cell (p := ⟨g2, off2 + k * 2, none⟩) hg2).trans (HB.out k _ hx).1
        have b1 : wr.cell? ⟨g2, off2 + k * 2 + 1, none⟩ = some (.bool q) := (HW.out.cell (p := ⟨g2, off2 + k * 2 + 1, none⟩) hg2).trans (HB.out k _ hx).2
        have hlt2 : (k : Int) < (fs.length : Int) := by omega
        clear hx
        go_wp2
        go_quiet (fail)
        go_wp2
        go_roundw
        case rel => exact ⟨k + 1, by omega, by go_num, HW.out.drewN _⟩
        case measure => simp [intOf]; omega
      · have el : decide (k < fs.length) = false := by simpa using hlt
        go_wp2
        go_ret
        exact ⟨rfl, HW.out⟩

theorem split_s (w : World) (hg : Gl w) : Calls Tryz.prog 7 #[.string ⟨#[103, 101, 116, 32, 47, 32, 34, 97, 32, 98, 34]⟩] w fun e w' => ∃ v, e = .returned (.tuple #[v, .int .i64 0]) ∧ Flds w' v [([103, 101, 116], false), ([47], false), ([97, 32, 98], true)] ∧ Ow w w' := by
  refine (Split_any ⟨#[103, 101, 116, 32, 47, 32, 34, 97, 32, 98, 34]⟩ w (by decide) hg).mono fun e w' ⟨v, h1, h2, h3⟩ => ⟨v, ?_, ?_, h3⟩
  · rw [h1, show Wd.splitE ([103, 101, 116, 32, 47, 32, 34, 97, 32, 98, 34] : List UInt8) = 0 from by decide +kernel]
  · have e : Wd.splitS ([103, 101, 116, 32, 47, 32, 34, 97, 32, 98, 34] : List UInt8) = [([103, 101, 116], false), ([47], false), ([97, 32, 98], true)] := by decide +kernel
    rw [show (ByteArray.mk #[103, 101, 116, 32, 47, 32, 34, 97, 32, 98, 34]).data.toList = [103, 101, 116, 32, 47, 32, 34, 97, 32, 98, 34] from rfl, e] at h2
    exact flds_own h2
theorem int_s (w : World) (hg : Gl w) : Calls Tryz.prog 15 #[.string ⟨#[45, 49, 50]⟩, .int .i64 (-20), .int .i64 20] w fun e w' => e = .returned (.tuple #[.int .i64 (-12), .int .i64 0]) ∧ Ow w w' := by
  refine (int_any ⟨#[45, 49, 50]⟩ (-20) 20 w (by decide) hg ⟨by decide, by decide⟩).mono fun e w' ⟨h1, h2⟩ => ⟨?_, h2⟩
  rw [h1, show Wd.intV ([45, 49, 50] : List UInt8) (-20) 20 = -12 from by decide +kernel, show Wd.intE ([45, 49, 50] : List UInt8) (-20) 20 = 0 from by decide +kernel]
theorem list_s (g cap : Nat) (w : World) (hi : Ints w g 0 [1, 2, 3, 5, 8, 9]) (hg : Gl w) : Calls Tryz.prog 12 #[.slice (some ⟨g, 0, none⟩) 6 cap] w fun e w' => e = .returned (.tuple #[.string ⟨#[49, 45, 51, 44, 53, 44, 56, 45, 57]⟩, .int .i64 0]) ∧ Ow w w' := by
  refine (List_any g 0 cap [1, 2, 3, 5, 8, 9] w hi hg (by decide)).mono fun e w' ⟨h1, h2⟩ => ⟨?_, h2⟩
  rw [h1, show Wd.listS [1, 2, 3, 5, 8, 9] = [49, 45, 51, 44, 53, 44, 56, 45, 57] from by decide +kernel, show Wd.listE [1, 2, 3, 5, 8, 9] = 0 from by decide +kernel]
theorem unq_s (w : World) (hg : Gl w) : Calls Tryz.prog 10 #[.string ⟨#[34, 97, 92, 110, 92, 120, 48, 48, 92, 34, 34]⟩] w fun e w' => e = .returned (.tuple #[.string ⟨#[97, 10, 0, 34]⟩, .int .i64 0]) ∧ Ow w w' := by
  refine (Unquote_any ⟨#[34, 97, 92, 110, 92, 120, 48, 48, 92, 34, 34]⟩ w (by decide) hg).mono fun e w' ⟨h1, h2⟩ => ⟨?_, h2⟩
  rw [h1, show Wd.unquoteS ([34, 97, 92, 110, 92, 120, 48, 48, 92, 34, 34] : List UInt8) = [97, 10, 0, 34] from by decide +kernel, show Wd.unquoteE ([34, 97, 92, 110, 92, 120, 48, 48, 92, 34, 34] : List UInt8) = 0 from by decide +kernel]
theorem name_s (w : World) : Calls Tryz.prog 22 #[.string ⟨#[119, 101, 98, 45, 49]⟩] w fun e w' => e = .returned (.bool true) ∧ Ow w w' := by
  refine (name_any ⟨#[119, 101, 98, 45, 49]⟩ w (by decide)).mono fun e w' ⟨h1, h2⟩ => ⟨?_, h2⟩
  rw [h1, show nameB ([119, 101, 98, 45, 49] : List UInt8) = true from by decide +kernel]
theorem same_s (va vb : Value) (w : World) (ha : Flds w va [([103, 101, 116], false), ([47], false), ([97, 32, 98], true)]) (hb : Flds w vb [([103, 101, 116], false), ([47], false), ([97, 32, 98], true)]) :
    Calls Tryz.prog 9 #[va, vb] w fun e w' => e = .returned (.bool true) ∧ Ow w w' := same_true va vb _ w ha hb (by decide)
theorem ints_new (w : World) (T : TypeId) : Ints (w.alloc (.cells #[.int .i64 1, .int .i64 2, .int .i64 3, .int .i64 5, .int .i64 8, .int .i64 9] T)) w.heap.size 0 [1, 2, 3, 5, 8, 9] := by
  refine ⟨by simp, fun i x hx => ?_⟩
  rw [cell_of_row _ _ _ #[.int .i64 1, .int .i64 2, .int .i64 3, .int .i64 5, .int .i64 8, .int .i64 9] T (0, 0) (heap_alloc_new w _)]
  match i, hx with
  | 0, hx => simp at hx; subst hx; rfl
  | 1, hx => simp at hx; subst hx; rfl
  | 2, hx => simp at hx; subst hx; rfl
  | 3, hx => simp at hx; subst hx; rfl
  | 4, hx => simp at hx; subst hx; rfl
  | 5, hx => simp at hx; subst hx; rfl
theorem flds_new (w : World) (T : TypeId) : Flds (w.alloc (.cells #[.string ⟨#[103, 101, 116]⟩, .bool false, .string ⟨#[47]⟩, .bool false, .string ⟨#[97, 32, 98]⟩, .bool true] T)) (.slice (some ⟨w.heap.size, 0, none⟩) 3 3) [([103, 101, 116], false), ([47], false), ([97, 32, 98], true)] := by
  refine .inr ⟨w.heap.size, 0, 3, rfl, by simp, fun i x hx => ?_⟩
  rw [cell_of_row _ _ _ #[.string ⟨#[103, 101, 116]⟩, .bool false, .string ⟨#[47]⟩, .bool false, .string ⟨#[97, 32, 98]⟩, .bool true] T (0, 0) (heap_alloc_new w _), cell_of_row _ _ _ #[.string ⟨#[103, 101, 116]⟩, .bool false, .string ⟨#[47]⟩, .bool false, .string ⟨#[97, 32, 98]⟩, .bool true] T (0, 0) (heap_alloc_new w _)]
  match i, hx with
  | 0, hx => simp at hx; subst hx; exact ⟨rfl, rfl⟩
  | 1, hx => simp at hx; subst hx; exact ⟨rfl, rfl⟩
  | 2, hx => simp at hx; subst hx; exact ⟨rfl, rfl⟩

set_option maxRecDepth 100000 in
set_option maxHeartbeats 2000000 in
theorem shown_any (w : World) (hg : Gl w) : Calls Tryz.prog 6 #[] w fun e w' => e = .returned (.bool true) ∧ Ow w w' := by
  have HG := Lib.hid hg
  clear hg
  go_enter Tryz.func6, Tryz.ntmps6
  go_wp2_with fail
  (go_at_call 7; refine (split_s _ HG.out).mono ?_; rintro e w1 ⟨v, rfl, hf1, hb1⟩)
  have F1 := Lib.hid hf1
  clear hf1
  go_wp2_with fail
  (go_at_call 15; refine (int_s _ (HG.out.below hb1)).mono ?_; rintro e w2 ⟨rfl, hb2⟩)
  go_wp2_with fail
  have HI2 : Hid (Ints (w2.alloc (.cells #[.int .i64 1, .int .i64 2, .int .i64 3, .int .i64 5, .int .i64 8, .int .i64 9] 3)) w2.heap.size 0 [1, 2, 3, 5, 8, 9]) := ints_new w2 _
  have HG2 : Hid (Gl (w2.alloc (.cells #[.int .i64 1, .int .i64 2, .int .i64 3, .int .i64 5, .int .i64 8, .int .i64 9] 3))) := ((HG.out.below hb1).below hb2).below ((Ow.refl _).alloc _)
  (go_at_call 12; refine (list_s _ _ _ HI2.out HG2.out).mono ?_; rintro e w3 ⟨rfl, hb3⟩)
  have HG3 : Hid (Gl w3) := HG2.out.below hb3
  go_wp2_with fail
  (go_at_call 10; refine (unq_s _ HG3.out).mono ?_; rintro e w4 ⟨rfl, hb4⟩)
  have F4 : Hid (Flds (w4.alloc (.cells #[.string ⟨#[103, 101, 116]⟩, .bool false, .string ⟨#[47]⟩, .bool false, .string ⟨#[97, 32, 98]⟩, .bool true] 51)) v [([103, 101, 116], false), ([47], false), ([97, 32, 98], true)]) := F1.out.then (((hb2 : Ow _ _).alloc _ |>.then hb3 |>.then hb4).alloc _)
  go_wp2_with fail
  (go_at_call 9; refine (same_s _ _ _ F4.out (flds_new _ _)).mono ?_; rintro e w5 ⟨rfl, hb5⟩)
  go_wp2_with fail
  (go_at_call 22; refine (name_s _).mono ?_; rintro e w6 ⟨rfl, hb6⟩)
  go_wp2_with fail
  go_ret
  exact ⟨rfl, ((((((hb1 : Ow _ _).then hb2).alloc _).then hb3).then hb4).alloc _).then hb5 |>.then hb6⟩
end Go.Proofs.YtabopillicdjaaaGreatDoor

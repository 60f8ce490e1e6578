/- Package words: Join, walked. -/
import Derived.Test.YtabopillicdjaaaGreatDoorWJn
namespace Go.Proofs.YtabopillicdjaaaGreatDoor
open Go.RowKit
open Wd (fieldT joinT joinE joinS okF longF quoteL bareB)

set_option maxRecDepth 100000 in
set_option maxHeartbeats 4000000 in
theorem join_any (v : Value) (fs : List (List UInt8 × Bool)) (w : World) (hf : FldsA w v fs) (hn : fs.length ≤ 100000) (hg : Gl w) :
    Calls Tryz.prog 8 #[v] w (JnPost fs w) := by
  have HG := Lib.hid hg
  clear hg
  rcases hf with ⟨rfl, a, cap, rfl⟩ | ⟨hne, g, off, cap, rfl, hg, hcells⟩
  · clear hn
    go_enter Tryz.func8, Tryz.ntmps8
    go_wp2
    go_loopw [4, 5, 15] (fun f l i wr => f = .int .i64 0 ∧ l = .slice none 0 0 ∧ i = .int .i64 0 ∧ w = wr) (fun _ _ _ _ => 0)
    case atStart => exact ⟨rfl, rfl, rfl, rfl⟩
    case round =>
      obtain ⟨rfl, rfl, rfl, rfl⟩ := hrel
      go_wp2_with (go_at_call 25; refine (Tryz.strings_Join_none _ _ _ _).mono ?_; rintro e w2 ⟨rfl, rfl⟩)
      go_ret2
      exact ⟨rfl, Ow.refl _⟩
  · by_cases h64 : 64 < fs.length
    · have HF := Lib.hid (join_many h64)
      have e1 : decide (64 < fs.length) = true := by simpa using h64
      clear hcells
      go_enter Tryz.func8, Tryz.ntmps8
      go_wp2
      go_ret2
      unfold JnPost
      rw [HF.out.1, HF.out.2]
      exact ⟨rfl, Ow.refl _⟩
    · have hn64 : fs.length ≤ 64 := by omega
      have HC := Lib.hid hcells
      obtain ⟨i0, hi0, hz0, hz1, hz2⟩ := info_parts Tryz.infoStr
      clear hcells hne hn h64
      go_enter Tryz.func8, Tryz.ntmps8
      go_wp2
      go_loopw [4, 5, 7, 8, 15] (fun f l _ _ i wr => ∃ (k : Nat) (fv : Int) (xs : List ByteArray), k ≤ fs.length ∧ i = .int .i64 k ∧ f = .int .i64 fv ∧ JI fs k fv xs ∧ wr.ownsRow w.heap.size 9 1 l xs.length (xs.map Value.string) ∧ Ow w wr) (fun _ _ _ _ i _ => fs.length - (intOf i).toNat)
      case atStart => exact ⟨0, 0, [], by omega, rfl, rfl, JI.start fs, World.ownsRow_nil _ _ _ _, Ow.refl _⟩
      case round =>
        obtain ⟨k, fv, xs, hk, rfl, rfl, hji, hown, hb⟩ := hrel
        have hlen : xs.length ≤ 64 := by rw [hji.len]; omega
        have HJ := Lib.hid hji
        have HO := Lib.hid hown
        have HB := Lib.hid hb
        have HGr : Hid (Gl wr) := HG.out.below hb
        have hszr : w.heap.size ≤ wr.heap.size := hb.size
        clear hji hown hb
        by_cases hlt : k < fs.length
        · obtain ⟨⟨S, q⟩, hx⟩ : ∃ x, fs[k]? = some x := ⟨fs[k], List.getElem?_eq_getElem hlt⟩
          have c0 := (HB.out.cell (p := ⟨g, off + k * 2, none⟩) hg).trans (HC.out k _ hx).1
          have c1 := (HB.out.cell (p := ⟨g, off + k * 2 + 1, none⟩) hg).trans (HC.out k _ hx).2
          simp only at c0 c1
          have HX := Lib.hid hx
          obtain ⟨t, ht⟩ : ∃ t : ByteArray, t = ⟨S.toArray⟩ := ⟨_, rfl⟩
          have HT : Hid (t.data.toList = S) := by rw [ht]; rfl
          rw [← ht] at c0
          have el : decide (k < fs.length) = true := by simpa using hlt
          clear hx ht
          by_cases h2 : 2000 < t.size
          · have HF := Lib.hid (join_far HX.out (by simp only [longF, decide_eq_true_eq]; rw [← HT.out, ba_len]; exact h2))
            go_wp2
            go_ret2
            unfold JnPost
            rw [HF.out.1, HF.out.2]
            exact ⟨rfl, HB.out.alloc _⟩
          · have hs : t.size ≤ 9000 := by omega
            have e2 : decide ((2000 : Int) < (t.size : Int)) = false := decide_eq_false (by omega)
            have HLg : Hid (longF (S, q) = false) := by simp only [Hid, longF, decide_eq_false_iff_not]; rw [← HT.out, ba_len]; exact h2
            clear h2
            cases q with
            | true =>
              obtain ⟨u, hu⟩ : ∃ u : ByteArray, u.data.toList = quoteL t.data.toList := ⟨⟨(quoteL t.data.toList).toArray⟩, rfl⟩
              have HU := Lib.hid hu
              have HGa : Hid (Gl (wr.alloc (.cells #[.string t, .bool true] 51))) := HGr.out.below ((Ow.refl _).alloc _)
              clear hu
              go_wp2_with (first
                | (go_at_call 11; refine (wq_is _ _ HU.out _ hs HGa.out).mono ?_; rintro e w3 ⟨rfl, hb3⟩; have hB3 : Ow wr w3 := ((Ow.refl wr).alloc _).then hb3; have HB3 := Lib.hid hB3; have HO3 := Lib.hid (own_then HO.out hB3); have hsz3 : w.heap.size ≤ w3.heap.size := Nat.le_trans hszr hB3.size; clear hb3 hB3)
                | (at_builtin; refine wpList_append_own _ rfl _ _ 56 rfl w.heap.size 9 i0 (.string ByteArray.empty) 1 16 Tryz.underlying56 hi0 hz0 hz1 hz2 rfl (by decide) _ xs.length (xs.map Value.string) rfl (HO3.out.alloc _) ⟨w3.heap.size, 0, none⟩ 1 1 [.string u] rfl rfl (cell_one_new _ _ _) (by simp [Value.oneCell']) (by unfold maxLen; omega) (by omega) (by simp; omega) ?_; intro v4 w4 hown4 hgrow4 hnil4))
              go_roundw
              case rel => exact ⟨k + 1, fv, xs ++ [u], by omega, by go_num, rfl, HJ.out.good HX.out HLg.out rfl (by rw [HU.out, HT.out]; rfl), by simpa using hown4, own_after (HO3.out.alloc _) hgrow4 ((HB.out.then HB3.out).alloc _) (Nat.le_refl _)⟩
              case measure => simp [intOf]; omega
            | false =>
              cases hbr : bareB S with
              | true =>
                have HBr := Lib.hid hbr
                clear hbr
                go_wp2_with (first
                  | (go_at_call 24; refine (isBare_is _ true (by rw [HT.out]; exact HBr.out) _ hs).mono ?_; rintro e w3 ⟨rfl, hb3⟩; have hB3 : Ow wr w3 := ((Ow.refl wr).alloc _).then hb3; have HB3 := Lib.hid hB3; have HO3 := Lib.hid (own_then HO.out hB3); have hsz3 : w.heap.size ≤ w3.heap.size := Nat.le_trans hszr hB3.size; clear hb3 hB3)
                  | (at_builtin; refine wpList_append_own _ rfl _ _ 56 rfl w.heap.size 9 i0 (.string ByteArray.empty) 1 16 Tryz.underlying56 hi0 hz0 hz1 hz2 rfl (by decide) _ xs.length (xs.map Value.string) rfl (HO3.out.alloc _) ⟨w3.heap.size, 0, none⟩ 1 1 [.string t] rfl rfl (cell_one_new _ _ _) (by simp [Value.oneCell']) (by unfold maxLen; omega) (by omega) (by simp; omega) ?_; intro v4 w4 hown4 hgrow4 hnil4))
                go_roundw
                case rel => exact ⟨k + 1, fv, xs ++ [t], by omega, by go_num, rfl, HJ.out.good HX.out HLg.out (by simp [okF, HBr.out]) (by rw [HT.out]; rfl), by simpa using hown4, own_after (HO3.out.alloc _) hgrow4 ((HB.out.then HB3.out).alloc _) (Nat.le_refl _)⟩
                case measure => simp [intOf]; omega
              | false =>
                have HBr := Lib.hid hbr
                clear hbr
                go_wp2_with (first
                  | (go_at_call 24; refine (isBare_is _ false (by rw [HT.out]; exact HBr.out) _ hs).mono ?_; rintro e w3 ⟨rfl, hb3⟩; have hB3 : Ow wr w3 := ((Ow.refl wr).alloc _).then hb3; have HB3 := Lib.hid hB3; have HO3 := Lib.hid (own_then HO.out hB3); have hsz3 : w.heap.size ≤ w3.heap.size := Nat.le_trans hszr hB3.size; clear hb3 hB3)
                  | (at_builtin; refine wpList_append_own _ rfl _ _ 56 rfl w.heap.size 9 i0 (.string ByteArray.empty) 1 16 Tryz.underlying56 hi0 hz0 hz1 hz2 rfl (by decide) _ xs.length (xs.map Value.string) rfl (HO3.out.alloc _) ⟨w3.heap.size, 0, none⟩ 1 1 [.string t] rfl rfl (cell_one_new _ _ _) (by simp [Value.oneCell']) (by unfold maxLen; omega) (by omega) (by simp; omega) ?_; intro v4 w4 hown4 hgrow4 hnil4))
                go_roundw
                case rel => exact ⟨k + 1, 6, xs ++ [t], by omega, by go_num, rfl, HJ.out.bad HX.out HLg.out (by simp [okF, HBr.out]) (by rw [HT.out]; rfl), by simpa using hown4, own_after (HO3.out.alloc _) hgrow4 ((HB.out.then HB3.out).alloc _) (Nat.le_refl _)⟩
                case measure => simp [intOf]; omega
        · have el : decide (k < fs.length) = false := by simpa using hlt
          obtain rfl : k = fs.length := by omega
          obtain ⟨d1, d2, d3, d4, d5, d6⟩ := HJ.out.done hn64
          obtain ⟨u, hu⟩ : ∃ u : ByteArray, u.data.toList = joinT fs := ⟨⟨(joinT fs).toArray⟩, rfl⟩
          have hus : u.size ≤ 1000000 := by rw [← ba_len, hu]; exact d2
          have HU := Lib.hid hu
          have HD1 := Lib.hid d1
          have HD4 := Lib.hid d4
          rw [← hu, ba_len] at d5 d6
          have HD5 := Lib.hid d5
          have HD6 := Lib.hid d6
          clear d1 d2 d4 d5 d6 hu hlt hk
          rcases d3 with rfl | rfl
          · by_cases hbig : 8192 < u.size
            · have HF := Lib.hid (HD5.out rfl hbig)
              have eb : decide ((8192 : Int) < (u.size : Int)) = true := decide_eq_true (by omega)
              clear hbig
              go_wp2_with (go_at_call 25; refine (join_own _ _ xs u _ HO.out (by rw [HD1.out]; exact HU.out) (by omega) (by omega)).mono ?_; rintro e w3 ⟨rfl, hb3⟩)
              go_ret2
              unfold JnPost
              rw [HF.out.1, HF.out.2]
              exact ⟨rfl, HB.out.then hb3⟩
            · have HF := Lib.hid (HD6.out rfl hbig)
              have eb : decide ((8192 : Int) < (u.size : Int)) = false := decide_eq_false (by omega)
              clear hbig
              go_wp2_with (go_at_call 25; refine (join_own _ _ xs u _ HO.out (by rw [HD1.out]; exact HU.out) (by omega) (by omega)).mono ?_; rintro e w3 ⟨rfl, hb3⟩)
              go_ret2
              unfold JnPost
              rw [HF.out.1, HF.out.2, ba_mk]
              exact ⟨rfl, HB.out.then hb3⟩
          · have HF := Lib.hid (HD4.out rfl)
            go_wp2_with (go_at_call 25; refine (join_own _ _ xs u _ HO.out (by rw [HD1.out]; exact HU.out) (by omega) (by omega)).mono ?_; rintro e w3 ⟨rfl, hb3⟩)
            go_ret2
            unfold JnPost
            rw [HF.out.1, HF.out.2]
            exact ⟨rfl, HB.out.then hb3⟩
end Go.Proofs.YtabopillicdjaaaGreatDoor

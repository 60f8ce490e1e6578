/- Package words: Quote. -/
import Derived.Test.YtabopillicdjaaaGreatDoorQ2
import Derived.OwnWalk
import Derived.BigRegion
import Derived.Deep.RegionLaw
import Derived.Deep.AppendLies
namespace Go.Proofs.YtabopillicdjaaaGreatDoor
open Go.RowKit
open Wd (plainB letB escB hexB quoteL)

theorem hexdig (d : UInt8) (q : Nat) (hd : d.toNat = q) (h : q < 16) : ((⟨#[48, 49, 50, 51, 52, 53, 54, 55, 56, 57, 97, 98, 99, 100, 101, 102]⟩ : ByteArray)[q]'(by show q < 16; exact h)).toNat = (hexB d).toNat := by
  have key : ∀ q : Fin 16, ((⟨#[48, 49, 50, 51, 52, 53, 54, 55, 56, 57, 97, 98, 99, 100, 101, 102]⟩ : ByteArray)[q.val]'(by show q.val < 16; exact q.isLt)).toNat = (hexB (UInt8.ofNat q.val)).toNat := by decide
  have e : d = UInt8.ofNat q := UInt8.toNat_inj.1 (by rw [hd]; simp [UInt8.toNat_ofNat']; omega)
  rw [e]
  exact key ⟨q, h⟩
theorem and15 (n : Nat) (h : n < 256) : bits BinOp.and IntKind.u8 (n : Int) 15 = ((n % 16 : Nat) : Int) := by
  have key : ∀ n : Fin 256, bits BinOp.and IntKind.u8 ((n.val : Nat) : Int) 15 = ((n.val % 16 : Nat) : Int) := by decide +kernel
  exact key ⟨n, h⟩
theorem cell_list_new (w : World) (l : List Value) (cs : Array Value) (hc : cs = l.toArray) (t : TypeId) : ∀ j u, l[j]? = some u → (w.alloc (.cells cs t)).cell? ((⟨w.heap.size, 0, none⟩ : Addr).add j) = some u := by
  subst hc
  intro j u hj
  have := cell_of_row (w.alloc (.cells l.toArray t)) w.heap.size j l.toArray t (0, 0) (heap_alloc_new w _)
  have ha : (⟨w.heap.size, 0, none⟩ : Addr).add j = ⟨w.heap.size, j, none⟩ := by cases j <;> simp [Addr.add]
  rw [ha, this]
  simpa using hj
set_option maxRecDepth 100000 in
set_option maxHeartbeats 4000000 in
theorem wquote_any (s : ByteArray) (w : World) (hs : s.size ≤ 9000) (hg : Gl w) :
    Calls Tryz.prog 11 #[.string s] w (QtPost s w) := by
  obtain ⟨i0, hi0, hz0, hz1, hz2⟩ := info_parts Tryz.infoU8
  have HG := Lib.hid hg
  clear hg
  go_enter Tryz.func11, Tryz.ntmps11
  go_wp2_with (first
    | (refine wpList_make_own _ rfl _ _ 60 rfl w.heap.size 5 i0 (.int .u8 0) 1 Tryz.underlying60 hi0 hz0 hz1 .i64 .i64 _ (s.size + 2) rfl rfl (by omega) (by rw [hz2]; omega) (by unfold maxLen; omega) (Nat.le_refl _) ?_; intro w1 hown1 hgrow1; have HO1 := Lib.hid hown1; have HG1 := Lib.hid hgrow1; clear hown1 hgrow1; have hsz1 : w.heap.size ≤ w1.heap.size := HG1.out.size)
    | (at_builtin; refine wpList_append_own _ rfl _ _ 60 rfl w.heap.size 5 i0 (.int .u8 0) 1 1 Tryz.underlying60 hi0 hz0 hz1 hz2 rfl (by decide) _ 0 [] rfl (HO1.out.alloc _) ⟨w1.heap.size, 0, none⟩ 1 1 [.int .u8 34] rfl rfl (cell_one_new _ _ _) (by simp [Value.oneCell']) (by unfold maxLen; omega) (by omega) (by simp; omega) ?_; intro v2 w2 hown2 hgrow2 hnil2; have HO2 := Lib.hid hown2; have HG2 := Lib.hid hgrow2; clear hown2 hgrow2 hnil2))
  go_loopw [3, 4, 5, 6, 16] (fun v _ _ _ i wr => ∃ (k : Nat) (bs : List UInt8), k ≤ s.size ∧ i = .int .i64 k ∧ bs = 34 :: (s.data.toList.take k).flatMap escB ∧ bs.length ≤ 4 * k + 1 ∧ wr.ownsRow w.heap.size 5 1 v bs.length (Lib.byteCells bs) ∧ Below w.heap.size w wr) (fun _ _ _ _ i _ => s.size - (intOf i).toNat)
  case atStart => exact ⟨0, [34], by omega, rfl, by simp, by simp, by simpa [Lib.byteCells] using HO2.out, own_after (HO1.out.alloc _) HG2.out (((Below.refl _ _).grown HG1.out (Nat.le_refl _) (fun k e => by cases e)).alloc (by omega) _) (Nat.le_refl _)⟩
  case round =>
    obtain ⟨k, bs, hk, rfl, hbs, hbl, hown, hb⟩ := hrel
    have HO := Lib.hid hown
    have HB := Lib.hid hb
    have HBs := Lib.hid hbs
    have HGr : Hid (Gl wr) := HG.out.below hb
    have hszr : w.heap.size ≤ wr.heap.size := hb.size
    clear hown hb hbs
    by_cases hlt : k < s.size
    · obtain ⟨n, hn⟩ : ∃ n : Nat, s[k].toNat = n := ⟨_, rfl⟩
      have HN := Lib.hid hn
      have el : decide (k < s.size) = true := by simpa using hlt
      have HSt := Lib.hid (qt_step hlt)
      obtain ⟨d, hd⟩ : ∃ d, letB s[k] = d := ⟨_, rfl⟩
      have HLd := Lib.hid hd
      clear hd
      cases hp : plainB s[k] with
      | true =>
        have HP := Lib.hid hp
        have HE : Hid (escB s[k] = [s[k]]) := by simp [Hid, escB, hp]
        clear hp
        go_wp2_with (first
          | (go_at_call 27; refine (letterOf_is _ _ HN.out _ HLd.out _ HGr.out).mono ?_; rintro e w3 ⟨rfl, hb3⟩; have HO3 := Lib.hid (own_then HO.out hb3); have hsz3 : w.heap.size ≤ w3.heap.size := Nat.le_trans hszr hb3.size)
          | (go_at_call 28; refine (isPlain_is _ _ HN.out _ HP.out _).mono ?_; rintro e w5 ⟨rfl, rfl⟩)
          | (at_builtin; refine wpList_append_own _ rfl _ _ 60 rfl w.heap.size 5 i0 (.int .u8 0) 1 1 Tryz.underlying60 hi0 hz0 hz1 hz2 rfl (by decide) _ bs.length (Lib.byteCells bs) rfl (HO3.out.alloc _) ⟨w3.heap.size, 0, none⟩ 1 1 [.int .u8 (n : Int)] rfl rfl (cell_one_new _ _ _) (by simp [Value.oneCell']) (by unfold maxLen; omega) (by omega) (by simp; omega) ?_; intro v4 w4 hown4 hgrow4 hnil4))
        go_roundw
        case rel => exact ⟨k + 1, bs ++ [s[k]], by omega, by go_num, by rw [HBs.out, ← HE.out, HSt.out], by simp; omega, by simpa [Lib.byteCells, HN.out] using hown4, own_after (HO3.out.alloc _) hgrow4 ((HB.out.trans (hb3.mono HB.out.size)).alloc (by omega) _) (Nat.le_refl _)⟩
        case measure => simp [intOf]; omega
      | false =>
        have HP := Lib.hid hp
        by_cases hd0 : d = 0
        · clear hp
          subst hd0
          go_wp2_with (first
            | (go_at_call 27; refine (letterOf_is _ _ HN.out _ HLd.out _ HGr.out).mono ?_; rintro e w3 ⟨rfl, hb3⟩; have HO3 := Lib.hid (own_then HO.out hb3); have hsz3 : w.heap.size ≤ w3.heap.size := Nat.le_trans hszr hb3.size)
            | (go_at_call 28; refine (isPlain_is _ _ HN.out _ HP.out _).mono ?_; rintro e w5 ⟨rfl, rfl⟩))
          obtain ⟨q, hq⟩ : ∃ q : Nat, (s[k] / 16).toNat = q := ⟨_, rfl⟩
          obtain ⟨r, hr⟩ : ∃ r : Nat, (s[k] % 16).toNat = r := ⟨_, rfl⟩
          have hn256 : n < 256 := by rw [← HN.out]; exact byte_lt _
          have hqn : n / 16 = q := by rw [← hq, UInt8.toNat_div, HN.out]; rfl
          have hrn : n % 16 = r := by rw [← hr, UInt8.toNat_mod, HN.out]; rfl
          have f1 : (n : Int) / 16 = (q : Int) := by omega
          have f2 : bits BinOp.and IntKind.u8 (n : Int) 15 = (r : Int) := by rw [and15 n hn256, hrn]
          have g1 : (q : Int) < 16 := by omega
          have g2 : (r : Int) < 16 := by omega
          have hq16 : q < 16 := by omega
          have hr16 : r < 16 := by omega
          have k1 := hexdig (s[k] / 16) q hq hq16
          have k2 := hexdig (s[k] % 16) r hr hr16
          obtain ⟨x, hx⟩ : ∃ x : Nat, (hexB (s[k] / 16)).toNat = x := ⟨_, rfl⟩
          obtain ⟨y, hy⟩ : ∃ y : Nat, (hexB (s[k] % 16)).toNat = y := ⟨_, rfl⟩
          rw [hx] at k1
          rw [hy] at k2
          have HE : Hid (escB s[k] = [92, 120, hexB (s[k] / 16), hexB (s[k] % 16)]) := by
            rw [Hid, escB, if_neg (by rw [HP.out]; simp), if_neg (by rw [HLd.out]; simp)]
          have HX := Lib.hid hx
          have HY := Lib.hid hy
          clear hx hy hq hr hqn hrn
          go_region_law (refine step_append_lies _ rfl _ _ 60 rfl w.heap.size 5 i0 (.int .u8 0) 1 1 Tryz.underlying60 hi0 hz0 hz1 hz2 rfl (by decide) _ bs.length (Lib.byteCells bs) rfl (World.ownsRow.alloc (w := w3.drew) HO3.out _) ⟨w3.heap.size, 0, none⟩ 4 4 [.int .u8 92, .int .u8 120, .int .u8 (x : Int), .int .u8 (y : Int)] rfl rfl (cell_list_new w3.drew _ _ rfl _) (by simp [Value.oneCell']) (by omega) (by unfold maxLen; omega) (by omega) (by first | omega | (simp; omega)) _ rfl ?_; intro g cap w4 hown4 hgrow4 _ _)
          go_wp2
          all_goals refine ⟨⟨k + 1, bs ++ [92, 120, hexB (s[k] / 16), hexB (s[k] % 16)], by omega, by go_num, by rw [HBs.out, ← HE.out, HSt.out], by simp; omega, by simpa [Lib.byteCells, HX.out, HY.out] using hown4, own_after (World.ownsRow.alloc (w := w3.drew) HO3.out _) hgrow4 ((((HB.out.trans (hb3.mono HB.out.size)) : Below w.heap.size w w3).drew).alloc (by simp; omega) _) (Nat.le_refl _)⟩, by simp [intOf]; omega⟩
        · have HE : Hid (escB s[k] = [92, d]) := by
            have : (letB s[k] != 0) = true := by rw [HLd.out, bne_iff_ne]; exact hd0
            rw [Hid, escB, if_neg (by rw [hp]; simp), if_pos this, HLd.out]
          obtain ⟨dn, hdn⟩ : ∃ dn : Nat, d.toNat = dn := ⟨_, rfl⟩
          have HDn := Lib.hid hdn
          have hdn0 : ((dn : Int) != 0) = true := by
            rw [bne_iff_ne]
            intro e
            exact hd0 (UInt8.toNat_inj.1 (by rw [hdn, show dn = 0 by omega]; rfl))
          clear hp hd0
          go_wp2_with (first
            | (go_at_call 27; refine (letterOf_is _ _ HN.out _ HLd.out _ HGr.out).mono ?_; rintro e w3 ⟨rfl, hb3⟩; have HO3 := Lib.hid (own_then HO.out hb3); have hsz3 : w.heap.size ≤ w3.heap.size := Nat.le_trans hszr hb3.size)
            | (go_at_call 28; refine (isPlain_is _ _ HN.out _ HP.out _).mono ?_; rintro e w5 ⟨rfl, rfl⟩)
            | (at_builtin; refine wpList_append_own _ rfl _ _ 60 rfl w.heap.size 5 i0 (.int .u8 0) 1 1 Tryz.underlying60 hi0 hz0 hz1 hz2 rfl (by decide) _ bs.length (Lib.byteCells bs) rfl (HO3.out.alloc _) ⟨w3.heap.size, 0, none⟩ 2 2 [.int .u8 92, .int .u8 (dn : Int)] rfl rfl (cell_list_new _ _ _ rfl _) (by simp [Value.oneCell']) (by unfold maxLen; omega) (by omega) (by simp; omega) ?_; intro v4 w4 hown4 hgrow4 hnil4))
          go_roundw
          case rel => exact ⟨k + 1, bs ++ [92, d], by omega, by go_num, by rw [HBs.out, ← HE.out, HSt.out], by simp; omega, by simpa [Lib.byteCells, HDn.out] using hown4, own_after (HO3.out.alloc _) hgrow4 ((HB.out.trans (hb3.mono HB.out.size)).alloc (by omega) _) (Nat.le_refl _)⟩
          case measure => simp [intOf]; omega
    · have el : decide (k < s.size) = false := by simpa using hlt
      have HE : Hid (quoteL s.data.toList = bs ++ [34]) := by
        have := HBs.out
        rw [List.take_of_length_le (by rw [ba_len]; omega)] at this
        rw [Hid, quote_at, this]
      go_wp2_with (at_builtin; refine wpList_append_own _ rfl _ _ 60 rfl w.heap.size 5 i0 (.int .u8 0) 1 1 Tryz.underlying60 hi0 hz0 hz1 hz2 rfl (by decide) _ bs.length (Lib.byteCells bs) rfl (HO.out.alloc _) ⟨wr.heap.size, 0, none⟩ 1 1 [.int .u8 34] rfl rfl (cell_one_new _ _ _) (by simp [Value.oneCell']) (by unfold maxLen; omega) (by omega) (by simp; omega) ?_; intro v' w4 hown1 hgrow hnil; have hcv := own_conv (bs := bs ++ [34]) w4 60 9 5 Tryz.underlying60 Tryz.underlying5 Tryz.underlying9 (by simpa [Lib.byteCells] using hown1))
      go_ret
      unfold QtPost
      rw [HE.out]
      exact ⟨rfl, own_after (HO.out.alloc _) hgrow (HB.out.alloc (by omega) _) (Nat.le_refl _)⟩
end Go.Proofs.YtabopillicdjaaaGreatDoor

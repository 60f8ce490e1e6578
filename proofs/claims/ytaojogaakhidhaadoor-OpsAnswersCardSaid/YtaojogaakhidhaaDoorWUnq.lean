/- Package words: the walks of unquote, Unquote. -/
import Derived.Test.YtaojogaakhidhaaDoorWEsc
import Derived.Test.YtaojogaakhidhaaDoorWSplit
namespace Go.Proofs.YtaojogaakhidhaaDoor
open Go.RowKit
open Wd (plainB letB decB uq unq unqS unqN)

theorem Tryd.infoU8 : (Tryd.prog.info? 5).map (fun i => (i.zero, i.size, i.bytes)) = some (some (.int .u8 0), 1, 1) := by kernel_rfl
def UqPost (s : ByteArray) (w : World) (e : Ending) (w' : World) : Prop := e = .returned (.tuple #[.string ⟨(unqS s.data.toList).toArray⟩, .int .i64 (unqN s.data.toList : Nat)]) ∧ Below w.heap.size w w'
/-- What is read, from a place in the middle on. -/
def Mid (l : List UInt8) (k : Nat) (bs : List UInt8) : Prop := unq l = (uq (l.drop k)).map fun p => (bs ++ p.1, k + p.2)
theorem Mid.start {l : List UInt8} {c : UInt8} {r : List UInt8} (h : l = c :: r) (hc : c.toNat = 34) : Mid l 1 [] := by
  subst h
  obtain rfl : c = 34 := by apply UInt8.toNat_inj.1; rw [hc]; rfl
  unfold Mid unq
  rw [if_pos (by rfl)]
  simp [Nat.add_comm]
theorem Mid.done {l : List UInt8} {k : Nat} {bs : List UInt8} (h : Mid l k bs) {c : UInt8} {r : List UInt8} (hd : l.drop k = c :: r) (hc : c.toNat = 34) : unqS l = bs ∧ unqN l = k + 1 := by
  obtain rfl : c = 34 := by apply UInt8.toNat_inj.1; rw [hc]; rfl
  rw [Mid, hd, Wd.uq_end (by rfl)] at h
  have := Wd.unqN_some (s := bs ++ []) (n := k + 1) h
  exact ⟨by rw [this.2]; simp, this.1⟩
theorem Mid.bad {l : List UInt8} {k : Nat} {bs : List UInt8} (h : Mid l k bs) (h1 : (l.drop k).head? ≠ some 34) (h2 : decB (l.drop k) = none) : unqS l = [] ∧ unqN l = 0 := by
  rw [Mid, Wd.uq_none h1 h2] at h
  have := Wd.unqN_none h
  exact ⟨this.2, this.1⟩
theorem Mid.step {l : List UInt8} {k : Nat} {bs : List UInt8} (h : Mid l k bs) {x : UInt8} {j : Nat} (h1 : (l.drop k).head? ≠ some 34) (h2 : decB (l.drop k) = some (x, j)) : Mid l (k + j) (bs ++ [x]) := by
  rw [Mid, Wd.uq_step h1 h2, List.drop_drop] at h
  rw [Mid, h, Option.map_map]
  congr 1
  funext p
  simp [Nat.add_assoc]
theorem head_ne {c : UInt8} {r : List UInt8} (h : c.toNat ≠ 34) : (c :: r).head? ≠ some 34 := by
  intro e; simp only [List.head?_cons, Option.some.injEq] at e; subst e; exact h rfl
theorem dec_plain {c : UInt8} {r : List UInt8} (h : plainB c = true) : decB (c :: r) = some (c, 1) := by simp [decB, h]
theorem dec_other {c : UInt8} {r : List UInt8} (h : plainB c = false) (hc : c.toNat ≠ 92) : decB (c :: r) = none := by
  have : (c != 92) = true := by rw [bne_iff_ne]; intro e; subst e; exact hc rfl
  simp [decB, h, this]
theorem un_none {r : List UInt8} (h : unE r = (0, 0) ∨ (unE r).2 = 0) : decB (92 :: r) = none := by
  cases hd : decB (92 :: r) with
  | none => rfl
  | some p =>
    obtain ⟨x, j⟩ := p
    obtain ⟨t, e1, e2⟩ := Wd.esc_dec _ x j hd
    have h2 : (unE r).2 = j - 1 := by simp [unE, hd]
    have h3 : j - 1 = 0 := by
      rcases h with h | h
      · rw [h] at h2; exact h2.symm
      · rw [h] at h2; exact h2.symm
    have hl : 2 ≤ j := by
      rw [e2]
      unfold Wd.escB at e1 ⊢
      by_cases hp : plainB x = true
      · rw [if_pos hp] at e1
        simp only [List.singleton_append, List.cons.injEq] at e1
        obtain ⟨rfl, _⟩ := e1
        simp [plainB] at hp
      · rw [if_neg hp]; split <;> simp
    omega
theorem un_some {r : List UInt8} {x : UInt8} {m : Nat} (h : unE r = (x, m)) (hm : m ≠ 0) : decB (92 :: r) = some (x, m + 1) := by
  unfold unE at h
  cases hd : decB (92 :: r) with
  | none => rw [hd] at h; simp only [Prod.mk.injEq] at h; omega
  | some p =>
    obtain ⟨y, j⟩ := p
    rw [hd] at h
    simp only [Prod.mk.injEq] at h
    obtain ⟨rfl, rfl⟩ := h
    rw [show j - 1 + 1 = j by omega]

theorem ret_text {a b : List UInt8} {c d : Int} (h1 : a = b) (h2 : Value.int .i64 c = .int .i64 d) : Ending.returned (.tuple #[.string ⟨a.toArray⟩, .int .i64 c]) = .returned (.tuple #[.string ⟨b.toArray⟩, .int .i64 d]) := by rw [h1, h2]
set_option maxRecDepth 100000 in
set_option maxHeartbeats 4000000 in
theorem unquote_any (s : ByteArray) (w : World) (hs : s.size ≤ 20000) (hg : Gl w) :
    Calls Tryd.prog 61 #[.string s] w (UqPost s w) := by
  by_cases hz : s.size = 0
  · have e0 := ba_empty hz
    have hp : unqS s.data.toList = [] ∧ unqN s.data.toList = 0 := by rw [ba_nil hz]; exact ⟨rfl, rfl⟩
    have HP := Lib.hid hp
    clear hp
    go_enter Tryd.func61, Tryd.ntmps61
    go_wp2
    go_ret2
    unfold UqPost
    rw [HP.out.1, HP.out.2]
    exact ⟨rfl, Below.refl _ _⟩
  · have h0 : 0 < s.size := by omega
    have HGl := Lib.hid hg
    clear hg
    have e2 := ba_full h0
    have HS : Hid (s.data.toList = s[0] :: s.data.toList.drop 1) := ba_cons s h0
    by_cases hq : s[0].toNat = 34
    · have HM : Hid (Mid s.data.toList 1 []) := Mid.start HS.out hq
      obtain ⟨i0, hi0, hz0, hz1, hz2⟩ := info_parts Tryd.infoU8
      go_enter Tryd.func61, Tryd.ntmps61
      go_wp2
      clear hq
      go_loopw [4, 5] (fun v i wr => ∃ (k : Nat) (bs : List UInt8), 1 ≤ k ∧ k ≤ s.size ∧ bs.length ≤ k ∧ i = .int .i64 k ∧ wr.ownsRow w.heap.size 5 1 v bs.length (Lib.byteCells bs) ∧ Below w.heap.size w wr ∧ Mid s.data.toList k bs) (fun _ i _ => s.size - (intOf i).toNat)
      case atStart => exact ⟨1, [], by omega, by omega, by simp, rfl, World.ownsRow_nil _ _ _ _, Below.refl _ _, HM.out⟩
      case round =>
        obtain ⟨k, bs, hk1, hk2, hbl, rfl, hown, hb, hm⟩ := hrel
        have HO := Lib.hid hown
        have HB := Lib.hid hb
        have HMk := Lib.hid hm
        clear hown hb hm HM
        by_cases hk : k < s.size
        · have HD : Hid (s.data.toList.drop k = s[k] :: s.data.toList.drop (k + 1)) := ba_drop s k hk
          obtain ⟨n, hn⟩ : ∃ n : Nat, s[k].toNat = n := ⟨_, rfl⟩
          have HN := Lib.hid hn
          have hcv := own_conv wr 63 9 5 Tryd.underlying63 Tryd.underlying5 Tryd.underlying9 HO.out
          by_cases hc : n = 34
          · have HF : Hid (unqS s.data.toList = bs ∧ unqN s.data.toList = k + 1) := HMk.out.done HD.out (HN.out.trans hc)
            subst hc
            go_wp2
            go_ret2
            unfold UqPost
            rw [HF.out.1, HF.out.2]
            exact ⟨ret_text rfl (by go_num), HB.out⟩
          · have HC := Lib.hid hc
            have HH : Hid ((s.data.toList.drop k).head? ≠ some 34) := by rw [Hid, HD.out]; exact head_ne (by rw [HN.out]; exact HC.out)
            have e34 : ((n : Int) == 34) = false := by rw [beq_eq_false_iff_ne]; omega
            have HGr : Hid (Gl wr) := HGl.out.below HB.out
            have hszr : w.heap.size ≤ wr.heap.size := HB.out.size
            clear hcv
            by_cases hb92 : n = 92
            · have HD2 : Hid (s.data.toList.drop k = 92 :: s.data.toList.drop (k + 1)) := by
                have : s[k] = 92 := by apply UInt8.toNat_inj.1; rw [HN.out, hb92]; rfl
                rw [Hid, HD.out, this]
              have HX : Hid ((s.extract (k + 1) s.size).data.toList = s.data.toList.drop (k + 1)) := Lib.extract_to_end s (k + 1)
              obtain ⟨x, m, hU⟩ : ∃ x m, unE (s.data.toList.drop (k + 1)) = (x, m) := ⟨_, _, rfl⟩
              have HU := Lib.hid hU
              have hsz : (s.extract (k + 1) s.size).size ≤ 20000 := by rw [← ba_len, HX.out, List.length_drop, ba_len]; omega
              have HZ := Lib.hid hsz
              clear hU hsz hc
              by_cases hm0 : m = 0
              · have HF : Hid (unqS s.data.toList = [] ∧ unqN s.data.toList = 0) := HMk.out.bad HH.out (by rw [HD2.out]; exact un_none (.inr (by rw [HU.out]; exact hm0)))
                subst hm0
                subst hb92
                go_wp2_with (go_at_call 80; refine (unescape_is _ _ HX.out _ _ HU.out _ HZ.out HGr.out).mono ?_; rintro e w2 ⟨rfl, hb2⟩)
                go_ret2
                unfold UqPost
                rw [HF.out.1, HF.out.2]
                exact ⟨rfl, HB.out.trans (hb2.mono HB.out.size)⟩
              · have hdec := un_some HU.out hm0
                have hlen := (Wd.dec_len hdec).2
                rw [List.length_cons, List.length_drop, ba_len] at hlen
                have hkm : k + (m + 1) ≤ s.size := by omega
                have HF : Hid (Mid s.data.toList (k + (m + 1)) (bs ++ [x])) := HMk.out.step HH.out (by rw [HD2.out]; exact hdec)
                have em : ((m : Int) == 0) = false := by rw [beq_eq_false_iff_ne]; omega
                clear hdec hlen hm0
                subst hb92
                go_wp2_with (first
                  | (go_at_call 80; refine (unescape_is _ _ HX.out _ _ HU.out _ HZ.out HGr.out).mono ?_; rintro e w2 ⟨rfl, hb2⟩; have HO2 := Lib.hid (own_then HO.out hb2); have hsz2 : w.heap.size ≤ w2.heap.size := Nat.le_trans hszr hb2.size)
                  | (at_builtin; refine wpList_append_own _ rfl _ _ 63 rfl w.heap.size 5 i0 (.int .u8 0) 1 1 Tryd.underlying63 hi0 hz0 hz1 hz2 rfl (by decide) _ bs.length (Lib.byteCells bs) rfl (HO2.out.alloc _) ⟨w2.heap.size, 0, none⟩ 1 1 [.int .u8 (x.toNat : Int)] rfl rfl (cell_one_new _ _ _) (by simp [Value.oneCell']) (by unfold maxLen; omega) (by omega) (by simp; omega) ?_; intro v' w1 hown1 hgrow hnil))
                go_roundw
                case rel => exact ⟨k + (m + 1), bs ++ [x], by omega, hkm, by simp; omega, by go_num, by simpa [Lib.byteCells] using hown1, own_after (HO2.out.alloc _) hgrow ((HB.out.trans (hb2.mono HB.out.size)).alloc (by have := HB.out.size; have := hb2.size; omega) _) (Nat.le_refl _), HF.out⟩
                case measure => simp [intOf]; omega
            · have e92 : ((n : Int) == 92) = false := by rw [beq_eq_false_iff_ne]; omega
              cases hp : plainB s[k] with
              | true =>
                have HF : Hid (Mid s.data.toList (k + 1) (bs ++ [s[k]])) := HMk.out.step HH.out (by rw [HD.out]; exact dec_plain hp)
                have HP := Lib.hid hp
                clear hp hc hb92
                go_wp2_with (first
                  | (go_at_call 81; refine (isPlain_is _ _ HN.out _ HP.out _).mono ?_; rintro e w2 ⟨rfl, rfl⟩)
                  | (at_builtin; refine wpList_append_own _ rfl _ _ 63 rfl w.heap.size 5 i0 (.int .u8 0) 1 1 Tryd.underlying63 hi0 hz0 hz1 hz2 rfl (by decide) _ bs.length (Lib.byteCells bs) rfl (HO.out.alloc _) ⟨wr.heap.size, 0, none⟩ 1 1 [.int .u8 (n : Int)] rfl rfl (cell_one_new _ _ _) (by simp [Value.oneCell']) (by unfold maxLen; omega) (by omega) (by simp; omega) ?_; intro v' w1 hown1 hgrow hnil))
                go_roundw
                case rel => exact ⟨k + 1, bs ++ [s[k]], by omega, by omega, by simp; omega, by go_num, by rw [← HN.out] at hown1; simpa [Lib.byteCells] using hown1, own_after (HO.out.alloc _) hgrow (HB.out.alloc HB.out.size _) (Nat.le_refl _), HF.out⟩
                case measure => simp [intOf]; omega
              | false =>
                have HF : Hid (unqS s.data.toList = [] ∧ unqN s.data.toList = 0) := HMk.out.bad HH.out (by rw [HD.out]; exact dec_other hp (by rw [HN.out]; exact hb92))
                have HP := Lib.hid hp
                clear hp hc hb92
                go_wp2_with (go_at_call 81; refine (isPlain_is _ _ HN.out _ HP.out _).mono ?_; rintro e w2 ⟨rfl, rfl⟩)
                go_ret2
                unfold UqPost
                rw [HF.out.1, HF.out.2]
                exact ⟨rfl, HB.out⟩
        · have HF : Hid (unqS s.data.toList = [] ∧ unqN s.data.toList = 0) := by
            have e : s.data.toList.drop k = [] := List.drop_eq_nil_iff.2 (by rw [ba_len]; omega)
            exact HMk.out.bad (by rw [e]; simp) (by rw [e]; rfl)
          go_wp2
          go_ret2
          unfold UqPost
          rw [HF.out.1, HF.out.2]
          exact ⟨rfl, HB.out⟩
    · have HF : Hid (unqS s.data.toList = [] ∧ unqN s.data.toList = 0) := by
        have : unq s.data.toList = none := by
          unfold unq
          rw [if_neg]
          rw [HS.out]
          exact head_ne hq
        exact ⟨(Wd.unqN_none this).2, (Wd.unqN_none this).1⟩
      obtain ⟨n, hn⟩ : ∃ n : Nat, s[0].toNat = n := ⟨_, rfl⟩
      rw [hn] at hq
      have e34 : ((n : Int) != 34) = true := by rw [bne_iff_ne]; omega
      go_enter Tryd.func61, Tryd.ntmps61
      go_wp2
      go_ret2
      unfold UqPost
      rw [HF.out.1, HF.out.2]
      exact ⟨rfl, Below.refl _ _⟩
end Go.Proofs.YtaojogaakhidhaaDoor

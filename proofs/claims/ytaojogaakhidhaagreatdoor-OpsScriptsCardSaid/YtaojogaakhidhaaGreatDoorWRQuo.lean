/- The reference of chapter 1: quoted, Unquote. -/
import Derived.Test.YtaojogaakhidhaaGreatDoorWREsc
namespace Go.Proofs.YtaojogaakhidhaaGreatDoor
open Go.RowKit
open Wd (plainB letB escB hexB decB uq unq unqS unqN)

/-- Does the form of a byte stand at a place? -/
def formAt (l : List UInt8) (k : Nat) (c : UInt8) : Bool := (escB c).isPrefixOf (l.drop k)
theorem form_dec {l : List UInt8} {k : Nat} {c : UInt8} (h : formAt l k c = true) : decB (l.drop k) = some (c, (escB c).length) := by
  obtain ⟨t, ht⟩ := List.isPrefixOf_iff_prefix.1 h
  rw [← ht]; exact Wd.dec_esc c t
theorem dec_form {l : List UInt8} {k : Nat} {c : UInt8} {n : Nat} (h : decB (l.drop k) = some (c, n)) : formAt l k c = true := by
  obtain ⟨t, ht, _⟩ := Wd.esc_dec _ _ _ h
  exact List.isPrefixOf_iff_prefix.2 ⟨t, ht.symm⟩
theorem no_form {l : List UInt8} {k : Nat} (h : ∀ c : UInt8, formAt l k c = false) : decB (l.drop k) = none := by
  cases hd : decB (l.drop k) with
  | none => rfl
  | some p =>
    obtain ⟨c, n⟩ := p
    have := dec_form hd
    rw [h c] at this; cases this
theorem form_len {l : List UInt8} {k : Nat} {c : UInt8} (h : formAt l k c = true) : k + (escB c).length ≤ l.length := by
  have := (List.isPrefixOf_iff_prefix.1 h).length_le
  rw [List.length_drop] at this
  have := Wd.esc_len_pos c
  omega
theorem form_slice {s : ByteArray} {k : Nat} {c : UInt8} : formAt s.data.toList k c = true ↔ (k + (escB c).length ≤ s.size ∧ (s.extract k (k + (escB c).length)).data.toList = escB c) := by
  constructor
  · intro h
    refine ⟨by have := form_len h; rwa [ba_len] at this, ?_⟩
    rw [Lib.extract_data, show k + (escB c).length - k = (escB c).length by omega]
    exact (List.prefix_iff_eq_take.1 (List.isPrefixOf_iff_prefix.1 h)).symm
  · rintro ⟨_, h2⟩
    rw [Lib.extract_data, show k + (escB c).length - k = (escB c).length by omega] at h2
    exact List.isPrefixOf_iff_prefix.2 (List.prefix_iff_eq_take.2 h2.symm)
theorem esc_max (c : UInt8) : (escB c).length ≤ 4 := by unfold escB; split; simp; split <;> simp
def QPost (s : ByteArray) (w : World) (e : Ending) (w' : World) : Prop := e = .returned (.tuple #[.string ⟨(unqS s.data.toList).toArray⟩, .int .i64 (unqN s.data.toList : Nat)]) ∧ Ow w w'
theorem escaped_is (c : UInt8) (n : Nat) (hn : c.toNat = n) (f : ByteArray) (hf : f.data.toList = escB c) (w : World) :
    Calls Tryz.prog 63 #[.int .u8 (n : Int)] w fun e w' => e = .returned (.string f) ∧ Ow w w' := by
  have := escaped_any c n hn w
  unfold EPost at this
  rw [← hf, ba_mk] at this
  exact this

set_option maxRecDepth 100000 in
set_option maxHeartbeats 8000000 in
theorem rquoted_any (s : ByteArray) (w : World) (hs : s.size ≤ 9000) :
    Calls Tryz.prog 39 #[.string s] w (QPost s w) := by
  by_cases hz : s.size = 0
  · have hp : unqS s.data.toList = [] ∧ unqN s.data.toList = 0 := by rw [ba_nil hz]; exact ⟨rfl, rfl⟩
    have HP := Lib.hid hp
    have e0 : ((s.size : Int) == 0) = true := by rw [hz]; rfl
    clear hp hz
    go_enter Tryz.func39, Tryz.ntmps39
    go_wp2
    go_ret2
    unfold QPost
    rw [HP.out.1, HP.out.2]
    exact ⟨rfl, Ow.refl _⟩
  · have h0 : 0 < s.size := by omega
    have e0 : ((s.size : Int) == 0) = false := by rw [beq_eq_false_iff_ne]; omega
    have HS : Hid (s.data.toList = s[0] :: s.data.toList.drop 1) := ba_cons s h0
    clear hz
    by_cases hq : s[0].toNat = 34
    · have HM : Hid (Mid s.data.toList 1 []) := Mid.start HS.out hq
      obtain ⟨i0, hi0, hz0, hz1, hz2⟩ := info_parts Tryz.infoU8
      go_enter Tryz.func39, Tryz.ntmps39
      go_wp2
      clear hq
      go_loopw [4, 5] (fun v i wr => ∃ (k : Nat) (bs : List UInt8), 1 ≤ k ∧ k ≤ s.size ∧ bs.length ≤ k ∧ i = .int .i64 k ∧ wr.ownsRow w.heap.size 5 1 v bs.length (Lib.byteCells bs) ∧ Below w.heap.size w wr ∧ Mid s.data.toList k bs) (fun _ i _ => s.size - (intOf i).toNat)
      case atStart => exact ⟨1, [], by omega, by omega, by simp, rfl, World.ownsRow_nil _ _ _ _, Below.refl _ _, HM.out⟩
      case round =>
        obtain ⟨k, bs, hk1, hk2, hbl, rfl, hown, hb, hm⟩ := hrel
        have HO := Lib.hid hown
        have HB := Lib.hid hb
        have HMk := Lib.hid hm
        clear hown hb hm HM
        by_cases hk : k < s.size
        · have HD : Hid (s.data.toList.drop k = s[k] :: s.data.toList.drop (k + 1)) := ba_drop s k hk
          obtain ⟨n, hn⟩ : ∃ n : Nat, s[k].toNat = n := ⟨_, rfl⟩
          have HN := Lib.hid hn
          have hkl : (k : Int) < (s.size : Int) := by omega
          by_cases hc : n = 34
          · have HF : Hid (unqS s.data.toList = bs ∧ unqN s.data.toList = k + 1) := HMk.out.done HD.out (HN.out.trans hc)
            have hcv := own_conv wr 63 9 5 Tryz.underlying63 Tryz.underlying5 Tryz.underlying9 HO.out
            have ek : ((k : Int) == (s.size : Int)) = false := by rw [beq_eq_false_iff_ne]; omega
            subst hc
            go_wp2
            go_ret2
            unfold QPost
            rw [HF.out.1, HF.out.2]
            exact ⟨ret_text rfl (by go_num), HB.out⟩
          · have HH : Hid ((s.data.toList.drop k).head? ≠ some 34) := by rw [Hid, HD.out]; exact head_ne (by rw [HN.out]; exact hc)
            have e34 : ((n : Int) != 34) = true := by rw [bne_iff_ne]; omega
            have hszr : w.heap.size ≤ wr.heap.size := HB.out.size
            clear hc
            go_wp2
            go_loopw [4, 5, 6, 7] (fun v' i' f cc w2 =>
                (∃ q : Nat, q ≤ 256 ∧ cc = .int .i64 q ∧ f = .bool false ∧ v' = u4 ∧ i' = .int .i64 k ∧ (∀ c : UInt8, c.toNat < q → formAt s.data.toList k c = false) ∧ w2.ownsRow w.heap.size 5 1 u4 bs.length (Lib.byteCells bs) ∧ Below w.heap.size w w2) ∨
                (∃ (q k' : Nat) (bs' : List UInt8), q ≤ 256 ∧ cc = .int .i64 q ∧ f = .bool true ∧ i' = .int .i64 k' ∧ k < k' ∧ k' ≤ s.size ∧ bs'.length ≤ k' ∧ w2.ownsRow w.heap.size 5 1 v' bs'.length (Lib.byteCells bs') ∧ Below w.heap.size w w2 ∧ Mid s.data.toList k' bs')) (fun _ _ _ cc _ => 257 - (intOf cc).toNat)
            case atStart => exact .inl ⟨0, by omega, rfl, rfl, rfl, rfl, fun c h => absurd h (Nat.not_lt_zero _), HO.out, HB.out⟩
            case round =>
              rcases hrel with ⟨q, hq, rfl, rfl, rfl, rfl, hno, hown, hb⟩ | ⟨q, k', bs', hq, rfl, rfl, rfl, hkk, hk2', hbl', hown, hb, hm⟩
              · have HNo := Lib.hid hno
                have HO2 := Lib.hid hown
                have HB2 := Lib.hid hb
                clear hno hown hb HO HB
                by_cases hq256 : q < 256
                · have HQ : Hid ((UInt8.ofNat q).toNat = q) := by simp [Hid, UInt8.toNat_ofNat']; omega
                  obtain ⟨fb, hfb⟩ : ∃ fb : ByteArray, fb.data.toList = escB (UInt8.ofNat q) := ⟨⟨(escB (UInt8.ofNat q)).toArray⟩, rfl⟩
                  have HFb := Lib.hid hfb
                  have hf4 : fb.size ≤ 4 := by rw [← ba_len, hfb]; exact esc_max _
                  have hf1 : 0 < fb.size := by rw [← ba_len, hfb]; exact Wd.esc_len_pos _
                  clear hfb
                  cases hfm : formAt s.data.toList k (UInt8.ofNat q) with
                  | true =>
                    obtain ⟨h1, h2⟩ := form_slice.1 hfm
                    rw [← HFb.out, ba_len] at h1 h2
                    have HEq : Hid (s.extract k (k + fb.size) = fb) := ba_ext h2
                    have HFm := Lib.hid hfm
                    have hfit : (fb.size : Int) ≤ (s.size : Int) - (k : Int) := by omega
                    have hq2 : (q : Int) < 256 := by omega
                    clear hfm h2
                    have heq : ((s.extract k (k + fb.size)).toList == fb.toList) = true := by rw [HEq.out]; exact beq_self_eq_true _
                    have HMn : Hid (Mid s.data.toList (k + fb.size) (bs ++ [UInt8.ofNat q])) := by
                      have := HMk.out.step HH.out (form_dec HFm.out)
                      rwa [← HFb.out, ba_len] at this
                    clear hf4
                    go_wp2_with (first
                      | (go_at_call 63; refine (escaped_is _ _ HQ.out fb HFb.out _).mono ?_; rintro e w3 ⟨rfl, hb3⟩; have HO3 := Lib.hid (own_then HO2.out hb3); have hsz3 : w.heap.size ≤ w3.heap.size := Nat.le_trans HB2.out.size hb3.size)
                      | (at_builtin; refine wpList_append_own _ rfl _ _ 63 rfl w.heap.size 5 i0 (.int .u8 0) 1 1 Tryz.underlying63 hi0 hz0 hz1 hz2 rfl (by decide) _ bs.length (Lib.byteCells bs) rfl (HO3.out.alloc _) ⟨w3.heap.size, 0, none⟩ 1 1 [.int .u8 (q : Int)] rfl rfl (cell_one_new _ _ _) (by simp [Value.oneCell']) (by unfold maxLen; omega) (by omega) (by simp; omega) ?_; intro v' w1 hown1 hgrow hnil))
                    go_roundw
                    case rel => exact .inr ⟨q + 1, k + fb.size, bs ++ [UInt8.ofNat q], by omega, by go_num, rfl, by go_num, by omega, by omega, by simp; omega, by simpa [Lib.byteCells, HQ.out] using hown1, own_after (HO3.out.alloc _) hgrow ((HB2.out.trans (hb3.mono HB2.out.size)).alloc (by omega) _) (Nat.le_refl _), HMn.out⟩
                    case measure => simp [intOf]; omega
                  | false =>
                    have HFm := Lib.hid hfm
                    have HNn : Hid (∀ c : UInt8, c.toNat < q + 1 → formAt s.data.toList k c = false) := fun c hc => by
                      by_cases hcq : c.toNat < q
                      · exact HNo.out c hcq
                      · obtain rfl : c = UInt8.ofNat q := byte_val (by rw [HQ.out]; omega)
                        exact HFm.out
                    clear hfm
                    have hq2 : (q : Int) < 256 := by omega
                    by_cases hfit : k + fb.size ≤ s.size
                    · have hfi : (fb.size : Int) ≤ (s.size : Int) - (k : Int) := by omega
                      have heq : ((s.extract k (k + fb.size)).toList == fb.toList) = false := by
                        rw [beq_eq_false_iff_ne, ba_toList, ba_toList]
                        intro e
                        have := form_slice (s := s) (k := k) (c := UInt8.ofNat q)
                        rw [HFm.out, ← HFb.out, ba_len] at this
                        exact absurd (this.2 ⟨hfit, e⟩) (by simp)
                      go_wp2_with (go_at_call 63; refine (escaped_is _ _ HQ.out fb HFb.out _).mono ?_; rintro e w3 ⟨rfl, hb3⟩; have HO3 := Lib.hid (own_then HO2.out hb3); have hsz3 : w.heap.size ≤ w3.heap.size := Nat.le_trans HB2.out.size hb3.size)
                      go_roundw
                      case rel => exact .inl ⟨q + 1, by omega, by go_num, rfl, rfl, rfl, HNn.out, HO3.out, HB2.out.trans (hb3.mono HB2.out.size)⟩
                      case measure => simp [intOf]; omega
                    · have hfi : ¬ (fb.size : Int) ≤ (s.size : Int) - (k : Int) := by omega
                      clear hfit
                      go_wp2_with (go_at_call 63; refine (escaped_is _ _ HQ.out fb HFb.out _).mono ?_; rintro e w3 ⟨rfl, hb3⟩; have HO3 := Lib.hid (own_then HO2.out hb3); have hsz3 : w.heap.size ≤ w3.heap.size := Nat.le_trans HB2.out.size hb3.size)
                      go_roundw
                      case rel => exact .inl ⟨q + 1, by omega, by go_num, rfl, rfl, rfl, HNn.out, HO3.out, HB2.out.trans (hb3.mono HB2.out.size)⟩
                      case measure => simp [intOf]; omega
                · have hq2 : ¬ (q : Int) < 256 := by omega
                  have HF : Hid (unqS s.data.toList = [] ∧ unqN s.data.toList = 0) := HMk.out.bad HH.out (no_form (fun c => HNo.out c (by have := byte_lt c; omega)))
                  go_wp2
                  go_ret2
                  unfold QPost
                  rw [HF.out.1, HF.out.2]
                  exact ⟨rfl, HB2.out⟩
              · have HO2 := Lib.hid hown
                have HB2 := Lib.hid hb
                have HM2 := Lib.hid hm
                clear hown hb hm HO HB HMk
                by_cases hq256 : q < 256
                · have hq2 : (q : Int) < 256 := by omega
                  clear hq256
                  go_wp2
                  go_roundw
                  case rel => exact ⟨k', bs', by omega, hk2', hbl', rfl, HO2.out, HB2.out, HM2.out⟩
                  case measure => simp [intOf]; omega
                · have hq2 : ¬ (q : Int) < 256 := by omega
                  clear hq256
                  go_wp2
                  go_roundw
                  case rel => exact ⟨k', bs', by omega, hk2', hbl', rfl, HO2.out, HB2.out, HM2.out⟩
                  case measure => simp [intOf]; omega
        · have ek : ((k : Int) == (s.size : Int)) = true := by rw [beq_iff_eq]; omega
          have hkl : decide ((k : Int) < (s.size : Int)) = false := decide_eq_false (by omega)
          have HF : Hid (unqS s.data.toList = [] ∧ unqN s.data.toList = 0) := by
            have e : s.data.toList.drop k = [] := List.drop_eq_nil_iff.2 (by rw [ba_len]; omega)
            exact HMk.out.bad (by rw [e]; simp) (by rw [e]; rfl)
          go_wp2
          go_ret2
          unfold QPost
          rw [HF.out.1, HF.out.2]
          exact ⟨rfl, HB.out⟩
    · have HF : Hid (unqS s.data.toList = [] ∧ unqN s.data.toList = 0) := by
        have : unq s.data.toList = none := by
          unfold unq
          rw [if_neg]
          rw [HS.out]
          exact head_ne hq
        exact ⟨(Wd.unqN_none this).2, (Wd.unqN_none this).1⟩
      obtain ⟨n, hn⟩ : ∃ n : Nat, s[0].toNat = n := ⟨_, rfl⟩
      rw [hn] at hq
      have e34 : ((n : Int) != 34) = true := by rw [bne_iff_ne]; omega
      go_enter Tryz.func39, Tryz.ntmps39
      go_wp2
      go_ret2
      unfold QPost
      rw [HF.out.1, HF.out.2]
      exact ⟨rfl, Ow.refl _⟩
end Go.Proofs.YtaojogaakhidhaaGreatDoor

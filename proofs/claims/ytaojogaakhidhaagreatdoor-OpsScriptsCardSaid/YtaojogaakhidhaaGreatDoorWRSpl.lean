/- The reference of chapter 1: bare, Split (printed by gen/wrspl.py). -/
import Derived.Test.YtaojogaakhidhaaGreatDoorWRQuo
namespace Go.Proofs.YtaojogaakhidhaaGreatDoor
open Go.RowKit
open Wd (plainB bareB bareC fieldAt word unq unqS unqN spl splitS splitE longF)

set_option maxHeartbeats 1000000 in
theorem rbare_any (s : ByteArray) (w : World) (hs : s.size ≤ 9000) :
    Calls Tryz.prog 40 #[.string s] w (BPost s w) := by
  go_enter Tryz.func40, Tryz.ntmps40
  go_wp2
  go_loopw [3] (fun i wr => ∃ k : Nat, k ≤ s.size ∧ i = .int .i64 k ∧ (s.data.toList.take k).all bareC = true ∧ w = wr) (fun i _ => s.size - (intOf i).toNat)
  case atStart => exact ⟨0, by omega, rfl, by simp, rfl⟩
  case round =>
    obtain ⟨k, hk, rfl, ha, rfl⟩ := hrel
    have HA := Lib.hid ha
    clear ha
    by_cases hlt : k < s.size
    · obtain ⟨n, hn⟩ : ∃ n : Nat, s[k].toNat = n := ⟨_, rfl⟩
      have HN := Lib.hid hn
      have el : decide (k < s.size) = true := by simpa using hlt
      cases hp : plainB s[k] with
      | false =>
        have HF : Hid (bareB s.data.toList = false) := bare_no hlt (by rw [bareC_at, hp]; rfl)
        have HP := Lib.hid hp
        clear hp
        go_wp2_with (go_at_call 64; refine (rplain_is _ _ HN.out _ HP.out _).mono ?_; rintro e w2 ⟨rfl, rfl⟩)
        go_ret
        unfold BPost
        rw [HF.out]
        exact ⟨rfl, Ow.refl _⟩
      | true =>
        have HP := Lib.hid hp
        clear hp
        by_cases h32 : n = 32
        · have HF : Hid (bareB s.data.toList = false) := bare_no hlt (by rw [bareC_at, HP.out, HN.out, h32]; rfl)
          subst h32
          go_wp2_with (go_at_call 64; refine (rplain_is _ _ HN.out _ HP.out _).mono ?_; rintro e w2 ⟨rfl, rfl⟩)
          go_ret
          unfold BPost
          rw [HF.out]
          exact ⟨rfl, Ow.refl _⟩
        · have HF : Hid ((s.data.toList.take (k + 1)).all bareC = true) := take_all hlt HA.out (by rw [bareC_at, HP.out, HN.out]; simpa using h32)
          have e32 : ((n : Int) == 32) = false := by rw [beq_eq_false_iff_ne]; omega
          clear h32
          go_wp2_with (go_at_call 64; refine (rplain_is _ _ HN.out _ HP.out _).mono ?_; rintro e w2 ⟨rfl, rfl⟩)
          go_roundw
          case rel => exact ⟨k + 1, by omega, by go_num, HF.out, by first | rfl | trivial⟩
          case measure => simp [intOf]; omega
    · have el : decide (k < s.size) = false := by simpa using hlt
      have HF : Hid (s.data.toList.all bareC = true) := by
        have := HA.out
        rwa [List.take_of_length_le (by rw [ba_len]; omega)] at this
      go_wp2
      go_ret
      unfold BPost
      refine ⟨retB ?_, Ow.refl _⟩
      rw [bareB, HF.out, Bool.true_and]
      by_cases hz : s.size = 0
      · rw [ba_nil hz, hz]; rfl
      · rw [ba_cons s (by omega)]
        simp; omega
theorem rbare_is (s : ByteArray) (b : Bool) (h : bareB s.data.toList = b) (w : World) (hs : s.size ≤ 9000) :
    Calls Tryz.prog 40 #[.string s] w fun e w' => e = .returned (.bool b) ∧ Ow w w' := by
  have := rbare_any s w hs
  unfold BPost at this
  rwa [h] at this
theorem rquoted_is (s t : ByteArray) (n : Nat) (ht : t.data.toList = unqS s.data.toList) (hn : unqN s.data.toList = n) (w : World) (hs : s.size ≤ 9000) :
    Calls Tryz.prog 39 #[.string s] w fun e w' => e = .returned (.tuple #[.string t, .int .i64 (n : Int)]) ∧ Ow w w' := by
  have := rquoted_any s w hs
  unfold QPost at this
  rwa [← ht, ba_mk, hn] at this

theorem rs_long {l : List UInt8} {fs : List (List UInt8 × Bool)} (h1 : ¬ 8192 < l.length) (h2 : l ≠ []) (h : spl l = some fs) (hl : fs.any longF = true ∨ 64 < fs.length) : splitS l = [] ∧ splitE l = 3 := by
  simp only [splitS, splitE, h]
  rw [if_neg (not_or.2 ⟨h1, h2⟩), if_neg h1, if_neg h2, if_pos hl, if_pos hl]; exact ⟨rfl, rfl⟩
theorem rs_ok {l : List UInt8} {fs : List (List UInt8 × Bool)} (h1 : ¬ 8192 < l.length) (h2 : l ≠ []) (h : spl l = some fs) (hl : ¬ (fs.any longF = true ∨ 64 < fs.length)) : splitS l = fs ∧ splitE l = 0 := by
  simp only [splitS, splitE, h]
  rw [if_neg (not_or.2 ⟨h1, h2⟩), if_neg h1, if_neg h2, if_neg hl, if_neg hl]; exact ⟨rfl, rfl⟩
theorem rs_bad {l : List UInt8} (h1 : ¬ 8192 < l.length) (h2 : l ≠ []) (h : spl l = none) : splitS l = [] ∧ splitE l = 6 := by
  simp only [splitS, splitE, h]
  rw [if_neg (not_or.2 ⟨h1, h2⟩), if_neg h1, if_neg h2]; exact ⟨rfl, rfl⟩
theorem Fb.gr {b : Nat} {S : ByteArray} {q : Bool} {w w' : World} {row : Option Nat} (h : Fb b S q w) (hg : w.grownBy w' row) (hr : row = none ∨ row ≠ some b) : Fb b S q w' :=
  (hg.block b h.lt (fun e => by rcases hr with hr | hr; · rw [hr] at e; cases e
                                · exact hr e.symm)).trans h
theorem longF_ba (t : ByteArray) (q : Bool) : longF (t.data.toList, q) = decide (2000 < t.size) := by rw [longF, ba_len]
theorem own_snoc {w : World} {base : Nat} {v : Value} {pre : List (List UInt8 × Bool)} {x : List UInt8 × Bool} {t : ByteArray} {q : Bool} (hx : x = (t.data.toList, q)) (h : w.ownsRow base 53 2 v (pre.length + 1) (cellsF pre ++ [.string t, .bool q])) : w.ownsRow base 53 2 v (pre ++ [x]).length (cellsF (pre ++ [x])) := by
  subst hx
  rw [List.length_append, cellsF_snoc]
  simp only [ba_mk]
  exact h
theorem ne_new {w : World} {base : Nat} {e : TypeId} {size : Nat} {v : Value} {n : Nat} {xs : List Value} (h : w.ownsRow base e size v n xs) : v.ownBlock = none ∨ v.ownBlock ≠ some w.heap.size := by
  cases e : v.ownBlock with
  | none => exact .inl rfl
  | some k => exact .inr (by have := (h.lt k e).2; simp; omega)
/-- What is read when the next field begins at k. -/
def Sp (l : List UInt8) (k : Nat) (pre : List (List UInt8 × Bool)) : Prop := spl l = (spl (l.drop k)).map (pre ++ ·)
theorem Sp.start (l : List UInt8) : Sp l 0 [] := by
  unfold Sp
  rw [List.drop_zero]
  cases spl l <;> rfl
theorem Sp.bad {l : List UInt8} {k : Nat} {pre : List (List UInt8 × Bool)} (h : Sp l k pre) (hf : fieldAt (l.drop k) = none) : spl l = none := by
  rw [h, Wd.spl_no hf]; rfl
theorem Sp.last {l : List UInt8} {k : Nat} {pre : List (List UInt8 × Bool)} (h : Sp l k pre) {x : List UInt8 × Bool} {n : Nat} (hf : fieldAt (l.drop k) = some (x, n)) (he : l.length ≤ k + n) : spl l = some (pre ++ [x]) := by
  rw [h, Wd.spl_last hf (by rw [List.drop_drop]; exact List.drop_eq_nil_iff.2 he)]; rfl
theorem Sp.off {l : List UInt8} {k : Nat} {pre : List (List UInt8 × Bool)} (h : Sp l k pre) {x : List UInt8 × Bool} {n : Nat} (hf : fieldAt (l.drop k) = some (x, n)) (he : k + n < l.length) (hh : (l.drop (k + n)).head? ≠ some 32) : spl l = none := by
  rw [h, Wd.spl_bad hf (by rw [List.drop_drop]; exact fun e => by have := List.drop_eq_nil_iff.1 e; omega) (by rwa [List.drop_drop])]; rfl
theorem Sp.step {l : List UInt8} {k : Nat} {pre : List (List UInt8 × Bool)} (h : Sp l k pre) {x : List UInt8 × Bool} {n : Nat} (hf : fieldAt (l.drop k) = some (x, n)) (he : k + n < l.length) (hh : (l.drop (k + n)).head? = some 32) : Sp l (k + n + 1) (pre ++ [x]) := by
  unfold Sp
  rw [h, Wd.spl_more hf (by rw [List.drop_drop]; exact fun e => by have := List.drop_eq_nil_iff.1 e; omega) (by rwa [List.drop_drop]), List.drop_drop, Nat.add_assoc k n 1]
  cases spl (List.drop (k + (n + 1)) l) <;> simp
theorem word_at {D : List UInt8} {j : Nat} (h : j < (word D).length) : ∃ c, D[j]? = some c ∧ c ≠ 32 := by
  have hp := List.takeWhile_prefix (fun c : UInt8 => c != 32) (l := D)
  have h1 : (word D)[j]? = some (word D)[j] := List.getElem?_eq_getElem h
  refine ⟨(word D)[j], ?_, ?_⟩
  · obtain ⟨t, ht⟩ := hp
    have h2 : (word D ++ t)[j]? = some (word D)[j] := by rw [List.getElem?_append_left h]; exact h1
    rwa [show word D ++ t = D from ht] at h2
  · have := List.all_takeWhile (p := fun c : UInt8 => c != 32) (l := D)
    have := List.all_eq_true.1 this _ (List.mem_of_getElem? h1)
    simpa using this
theorem word_stop : ∀ {D : List UInt8} {c : UInt8}, D[(word D).length]? = some c → c = 32
  | [], c, h => by simp at h
  | d :: D, c, h => by
    by_cases hd : d = 32
    · subst hd
      simp [word] at h
      exact h.symm
    · have e : word (d :: D) = d :: word D := by simp [word, hd]
      rw [e, List.length_cons, List.getElem?_cons_succ] at h
      exact word_stop h
theorem word_take (D : List UInt8) : D.take (word D).length = word D := (List.prefix_iff_eq_take.1 (List.takeWhile_prefix _)).symm
theorem ext_drop (s : ByteArray) (k : Nat) : (s.extract k s.size).data.toList = s.data.toList.drop k := by
  rw [Lib.extract_data, List.take_of_length_le (by rw [List.length_drop, ba_len]; omega)]
theorem ext_word (s : ByteArray) (k : Nat) : (s.extract k (k + (word (s.data.toList.drop k)).length)).data.toList = word (s.data.toList.drop k) := by
  rw [Lib.extract_data, Nat.add_sub_cancel_left, word_take]
theorem head_at {s : ByteArray} {k : Nat} (h : k < s.size) : (s.data.toList.drop k).head? = some s[k] := by rw [ba_drop s k h]; rfl
theorem any_snoc (pre : List (List UInt8 × Bool)) (x : List UInt8 × Bool) : (pre ++ [x]).any longF = (pre.any longF || longF x) := by simp

set_option maxRecDepth 100000 in
set_option maxHeartbeats 3000000 in
theorem rsplit_any (s : ByteArray) (w : World) (hs : s.size ≤ 9000) :
    Calls Tryz.prog 19 #[.string s] w (SPost s w) := by
  by_cases hl : 8192 < s.size
  · have HF : Hid (splitS s.data.toList = [] ∧ splitE s.data.toList = 3) := by
      have : 8192 < s.data.toList.length := by rw [ba_len]; exact hl
      simp only [Hid, splitS, splitE]
      rw [if_pos (.inl this), if_pos this]; exact ⟨rfl, rfl⟩
    go_enter Tryz.func19, Tryz.ntmps19
    go_wp2
    go_ret2
    unfold SPost
    rw [HF.out.1, HF.out.2]
    exact ⟨_, rfl, World.ownsRow_nil _ _ _ _, Ow.refl _⟩
  · by_cases hz : s.size = 0
    · have HF : Hid (splitS s.data.toList = [] ∧ splitE s.data.toList = 0) := by
        simp [Hid, splitS, splitE, ba_nil hz]
      have e0 := ba_empty hz
      go_enter Tryz.func19, Tryz.ntmps19
      go_wp2
      go_ret2
      unfold SPost
      rw [HF.out.1, HF.out.2]
      exact ⟨_, rfl, World.ownsRow_nil _ _ _ _, Ow.refl _⟩
    · have e0 := ba_full (s := s) (by omega)
      have e8 : decide ((8192 : Int) < (s.size : Int)) = false := by simp; omega
      have H1 : Hid (¬ 8192 < s.data.toList.length) := by rw [Hid, ba_len]; exact hl
      have H2 : Hid (s.data.toList ≠ []) := fun e => hz (by rw [← ba_len, e]; rfl)
      clear hz hl
      obtain ⟨i0, hi0, hz0, hz1, hz2⟩ := info_parts Tryz.infoFld
      go_enter Tryz.func19, Tryz.ntmps19
      go_wp2
      go_loopw [4, 5, 6, 7, 8, 9] (fun v lg at' _ _ _ wr => ∃ (k : Nat) (pre : List (List UInt8 × Bool)) (tl : Bool), k ≤ s.size ∧ pre.length ≤ k ∧ lg = .bool tl ∧ at' = .int .i64 k ∧ tl = pre.any longF ∧ wr.ownsRow w.heap.size 53 2 v pre.length (cellsF pre) ∧ Below w.heap.size w wr ∧ Sp s.data.toList k pre) (fun _ _ at' _ _ _ _ => s.size + 1 - (intOf at').toNat)
      case atStart => exact ⟨0, [], false, by omega, by simp, rfl, rfl, rfl, World.ownsRow_nil _ _ _ _, Below.refl _ _, Sp.start _⟩
      case round =>
        obtain ⟨k, pre, tl, hk, hpl, rfl, rfl, htl, hown, hb, hsp⟩ := hrel
        have HTL := Lib.hid htl
        have HO := Lib.hid hown
        have HB := Lib.hid hb
        have HS := Lib.hid hsp
        clear htl hown hb hsp
        have hrs : (s.extract k s.size).size ≤ 9000 := by rw [← ba_len, ext_drop, List.length_drop, ba_len]; omega
        cases hu : unq (s.data.toList.drop k) with
        | some p =>
          obtain ⟨S, n⟩ := p
          obtain ⟨t, ht⟩ : ∃ t : ByteArray, t.data.toList = S := ⟨⟨S.toArray⟩, rfl⟩
          have HT : Hid (t.data.toList = unqS (s.extract k s.size).data.toList) := by rw [Hid, ext_drop, (Wd.unqN_some hu).2, ht]
          have HN : Hid (unqN (s.extract k s.size).data.toList = n) := by rw [Hid, ext_drop, (Wd.unqN_some hu).1]
          have hfl : fieldAt (s.data.toList.drop k) = some ((t.data.toList, true), n) := by rw [fieldAt, hu, ht]
          have hnp := Wd.field_pos hfl
          rw [List.length_drop, ba_len] at hnp
          have hn0 : ((n : Int) == 0) = false := by rw [beq_eq_false_iff_ne]; omega
          have HFl := Lib.hid hfl
          clear hu ht hfl
          by_cases hke : k + n = s.size
          · skip
            cases tl with
            | true =>
              have hke2 : ((k : Int) + (n : Int) == (s.size : Int)) = true := by rw [beq_iff_eq]; omega
              have HL := Lib.hid (HS.out.last HFl.out (by rw [ba_len]; omega))
              have HR : Hid (splitS s.data.toList = [] ∧ splitE s.data.toList = 3) := rs_long H1.out H2.out HL.out (.inl (by rw [any_snoc, ← HTL.out, longF]; simp only [ba_len]; first | rfl | rw [hlg.out]; rfl))
              go_wp2_with (first | (go_at_call 39; refine (rquoted_is _ _ _ HT.out HN.out _ hrs).mono ?_; rintro e w2 ⟨rfl, hb2⟩; have HO2 := Lib.hid ((own_then HO.out hb2).alloc (.cells #[.string t, .bool true] 53)); have hsz2 : w.heap.size ≤ w2.heap.size := Nat.le_trans HB.out.size hb2.size; have HNe := Lib.hid (ne_new (own_then HO.out hb2)); have X3 : Hid (Fb w2.heap.size t true (w2.alloc (.cells #[.string t, .bool true] 53))) := heap_alloc_new _ _) | (at_builtin; refine wpList_append_own _ rfl _ _ 44 rfl w.heap.size 53 i0 (.agg #[.string ByteArray.empty, .bool false]) 2 24 Tryz.underlying44 hi0 hz0 hz1 hz2 rfl (by decide) _ pre.length (cellsF pre) rfl (HO2.out.alloc _) ⟨w2.heap.size + 1, 0, none⟩ 1 1 [.string t, .bool true] rfl rfl (by simpa using cell_two_new (w2.alloc (.cells #[.string t, .bool true] 53)) (.string t) (.bool true) 53) (by simp [Value.oneCell']) (by unfold maxLen; omega) (by omega) (by simp; omega) ?_; intro v' w1 hown1 hgrow hnil; obtain ⟨g', cap', rfl⟩ := ownsRow_succ hown1; have XA := Lib.hid ((X3.out.then ((Ow.refl _).alloc _)).gr hgrow HNe.out); have fa0 := XA.out.c0; have fa1 := XA.out.c1))
              go_ret2
              unfold SPost
              rw [HR.out.1, HR.out.2]
              exact ⟨_, rfl, World.ownsRow_nil _ _ _ _, (own_after (HO2.out.alloc _) hgrow (((HB.out.trans (hb2.mono HB.out.size)).alloc (by omega) _).alloc (by first | omega | (simp; omega)) _) (Nat.le_refl _))⟩
            | false =>
              by_cases hlong : 2000 < t.size
              · have hlg : Hid (decide (2000 < t.size) = true) := decide_eq_true hlong
                have e2 : decide ((2000 : Int) < (t.size : Int)) = true := decide_eq_true (by omega)
                have hke2 : ((k : Int) + (n : Int) == (s.size : Int)) = true := by rw [beq_iff_eq]; omega
                have HL := Lib.hid (HS.out.last HFl.out (by rw [ba_len]; omega))
                have HR : Hid (splitS s.data.toList = [] ∧ splitE s.data.toList = 3) := rs_long H1.out H2.out HL.out (.inl (by rw [any_snoc, ← HTL.out, longF]; simp only [ba_len]; first | rfl | rw [hlg.out]; rfl))
                go_wp2_with (first | (go_at_call 39; refine (rquoted_is _ _ _ HT.out HN.out _ hrs).mono ?_; rintro e w2 ⟨rfl, hb2⟩; have HO2 := Lib.hid ((own_then HO.out hb2).alloc (.cells #[.string t, .bool true] 53)); have hsz2 : w.heap.size ≤ w2.heap.size := Nat.le_trans HB.out.size hb2.size; have HNe := Lib.hid (ne_new (own_then HO.out hb2)); have X3 : Hid (Fb w2.heap.size t true (w2.alloc (.cells #[.string t, .bool true] 53))) := heap_alloc_new _ _) | (at_builtin; refine wpList_append_own _ rfl _ _ 44 rfl w.heap.size 53 i0 (.agg #[.string ByteArray.empty, .bool false]) 2 24 Tryz.underlying44 hi0 hz0 hz1 hz2 rfl (by decide) _ pre.length (cellsF pre) rfl (HO2.out.alloc _) ⟨w2.heap.size + 1, 0, none⟩ 1 1 [.string t, .bool true] rfl rfl (by simpa using cell_two_new (w2.alloc (.cells #[.string t, .bool true] 53)) (.string t) (.bool true) 53) (by simp [Value.oneCell']) (by unfold maxLen; omega) (by omega) (by simp; omega) ?_; intro v' w1 hown1 hgrow hnil; obtain ⟨g', cap', rfl⟩ := ownsRow_succ hown1; have XA := Lib.hid ((X3.out.then ((Ow.refl _).alloc _)).gr hgrow HNe.out); have fa0 := XA.out.c0; have fa1 := XA.out.c1))
                go_ret2
                unfold SPost
                rw [HR.out.1, HR.out.2]
                exact ⟨_, rfl, World.ownsRow_nil _ _ _ _, (own_after (HO2.out.alloc _) hgrow (((HB.out.trans (hb2.mono HB.out.size)).alloc (by omega) _).alloc (by first | omega | (simp; omega)) _) (Nat.le_refl _))⟩
              · have hlg : Hid (decide (2000 < t.size) = false) := decide_eq_false hlong
                have e2 : decide ((2000 : Int) < (t.size : Int)) = false := decide_eq_false (by omega)
                have hke2 : ((k : Int) + (n : Int) == (s.size : Int)) = true := by rw [beq_iff_eq]; omega
                have HL := Lib.hid (HS.out.last HFl.out (by rw [ba_len]; omega))
                by_cases h64 : 64 < pre.length + 1
                · have HR : Hid (splitS s.data.toList = [] ∧ splitE s.data.toList = 3) := rs_long H1.out H2.out HL.out (.inr (by rw [List.length_append]; exact h64))
                  have h64i : (64 : Int) < (pre.length : Int) + 1 := by omega
                  have h64n : (64 : Int) < ((pre.length + 1 : Nat) : Int) := by omega
                  go_wp2_with (first | (go_at_call 39; refine (rquoted_is _ _ _ HT.out HN.out _ hrs).mono ?_; rintro e w2 ⟨rfl, hb2⟩; have HO2 := Lib.hid ((own_then HO.out hb2).alloc (.cells #[.string t, .bool true] 53)); have hsz2 : w.heap.size ≤ w2.heap.size := Nat.le_trans HB.out.size hb2.size; have HNe := Lib.hid (ne_new (own_then HO.out hb2)); have X3 : Hid (Fb w2.heap.size t true (w2.alloc (.cells #[.string t, .bool true] 53))) := heap_alloc_new _ _) | (at_builtin; refine wpList_append_own _ rfl _ _ 44 rfl w.heap.size 53 i0 (.agg #[.string ByteArray.empty, .bool false]) 2 24 Tryz.underlying44 hi0 hz0 hz1 hz2 rfl (by decide) _ pre.length (cellsF pre) rfl (HO2.out.alloc _) ⟨w2.heap.size + 1, 0, none⟩ 1 1 [.string t, .bool true] rfl rfl (by simpa using cell_two_new (w2.alloc (.cells #[.string t, .bool true] 53)) (.string t) (.bool true) 53) (by simp [Value.oneCell']) (by unfold maxLen; omega) (by omega) (by simp; omega) ?_; intro v' w1 hown1 hgrow hnil; obtain ⟨g', cap', rfl⟩ := ownsRow_succ hown1; have XA := Lib.hid ((X3.out.then ((Ow.refl _).alloc _)).gr hgrow HNe.out); have fa0 := XA.out.c0; have fa1 := XA.out.c1))
                  go_ret2
                  unfold SPost
                  rw [HR.out.1, HR.out.2]
                  exact ⟨_, rfl, World.ownsRow_nil _ _ _ _, (own_after (HO2.out.alloc _) hgrow (((HB.out.trans (hb2.mono HB.out.size)).alloc (by omega) _).alloc (by first | omega | (simp; omega)) _) (Nat.le_refl _))⟩
                · have HR : Hid (splitS s.data.toList = _ ∧ splitE s.data.toList = 0) := rs_ok H1.out H2.out HL.out (not_or.2 ⟨by rw [any_snoc, ← HTL.out, longF]; simp only [ba_len]; rw [hlg.out]; simp, by rw [List.length_append]; exact h64⟩)
                  have h64i : decide ((64 : Int) < (pre.length : Int) + 1) = false := decide_eq_false (by omega)
                  have h64n : decide ((64 : Int) < ((pre.length + 1 : Nat) : Int)) = false := decide_eq_false (by omega)
                  go_wp2_with (first | (go_at_call 39; refine (rquoted_is _ _ _ HT.out HN.out _ hrs).mono ?_; rintro e w2 ⟨rfl, hb2⟩; have HO2 := Lib.hid ((own_then HO.out hb2).alloc (.cells #[.string t, .bool true] 53)); have hsz2 : w.heap.size ≤ w2.heap.size := Nat.le_trans HB.out.size hb2.size; have HNe := Lib.hid (ne_new (own_then HO.out hb2)); have X3 : Hid (Fb w2.heap.size t true (w2.alloc (.cells #[.string t, .bool true] 53))) := heap_alloc_new _ _) | (at_builtin; refine wpList_append_own _ rfl _ _ 44 rfl w.heap.size 53 i0 (.agg #[.string ByteArray.empty, .bool false]) 2 24 Tryz.underlying44 hi0 hz0 hz1 hz2 rfl (by decide) _ pre.length (cellsF pre) rfl (HO2.out.alloc _) ⟨w2.heap.size + 1, 0, none⟩ 1 1 [.string t, .bool true] rfl rfl (by simpa using cell_two_new (w2.alloc (.cells #[.string t, .bool true] 53)) (.string t) (.bool true) 53) (by simp [Value.oneCell']) (by unfold maxLen; omega) (by omega) (by simp; omega) ?_; intro v' w1 hown1 hgrow hnil; obtain ⟨g', cap', rfl⟩ := ownsRow_succ hown1; have XA := Lib.hid ((X3.out.then ((Ow.refl _).alloc _)).gr hgrow HNe.out); have fa0 := XA.out.c0; have fa1 := XA.out.c1))
                  go_ret2
                  unfold SPost
                  rw [HR.out.1, HR.out.2]
                  exact ⟨_, rfl, own_snoc rfl hown1, (own_after (HO2.out.alloc _) hgrow (((HB.out.trans (hb2.mono HB.out.size)).alloc (by omega) _).alloc (by first | omega | (simp; omega)) _) (Nat.le_refl _))⟩
          · have hkn : k + n < s.size := by omega
            have hki : (k : Int) + (n : Int) < (s.size : Int) := by omega
            obtain ⟨m, hm⟩ : ∃ m : Nat, s[k + n].toNat = m := ⟨_, rfl⟩
            by_cases hm3 : m = 32
            · have HHd : Hid ((s.data.toList.drop (k + n)).head? = some 32) := by rw [Hid, head_at hkn, show s[k + n] = 32 from UInt8.toNat_inj.1 (by rw [hm, hm3]; rfl)]
              subst hm3
              cases tl with
              | true =>
                have hke2 : ((k : Int) + (n : Int) == (s.size : Int)) = false := by rw [beq_eq_false_iff_ne]; omega
                have HSn := Lib.hid (HS.out.step HFl.out (by rw [ba_len]; omega) HHd.out)
                go_wp2_with (first | (go_at_call 39; refine (rquoted_is _ _ _ HT.out HN.out _ hrs).mono ?_; rintro e w2 ⟨rfl, hb2⟩; have HO2 := Lib.hid ((own_then HO.out hb2).alloc (.cells #[.string t, .bool true] 53)); have hsz2 : w.heap.size ≤ w2.heap.size := Nat.le_trans HB.out.size hb2.size; have HNe := Lib.hid (ne_new (own_then HO.out hb2)); have X3 : Hid (Fb w2.heap.size t true (w2.alloc (.cells #[.string t, .bool true] 53))) := heap_alloc_new _ _) | (at_builtin; refine wpList_append_own _ rfl _ _ 44 rfl w.heap.size 53 i0 (.agg #[.string ByteArray.empty, .bool false]) 2 24 Tryz.underlying44 hi0 hz0 hz1 hz2 rfl (by decide) _ pre.length (cellsF pre) rfl (HO2.out.alloc _) ⟨w2.heap.size + 1, 0, none⟩ 1 1 [.string t, .bool true] rfl rfl (by simpa using cell_two_new (w2.alloc (.cells #[.string t, .bool true] 53)) (.string t) (.bool true) 53) (by simp [Value.oneCell']) (by unfold maxLen; omega) (by omega) (by simp; omega) ?_; intro v' w1 hown1 hgrow hnil; obtain ⟨g', cap', rfl⟩ := ownsRow_succ hown1; have XA := Lib.hid ((X3.out.then ((Ow.refl _).alloc _)).gr hgrow HNe.out); have fa0 := XA.out.c0; have fa1 := XA.out.c1))
                go_roundw
                case rel => exact ⟨k + n + 1, _, _, by omega, by simp; omega, rfl, by go_num, by rw [any_snoc, ← HTL.out, longF_ba]; first | rfl | (rw [hlg.out]; rfl) | (rw [hlg.out]; simp [hlong]), own_snoc rfl hown1, (own_after (HO2.out.alloc _) hgrow (((HB.out.trans (hb2.mono HB.out.size)).alloc (by omega) _).alloc (by first | omega | (simp; omega)) _) (Nat.le_refl _)), HSn.out⟩
                case measure => simp [intOf]; omega
              | false =>
                by_cases hlong : 2000 < t.size
                · have hlg : Hid (decide (2000 < t.size) = true) := decide_eq_true hlong
                  have e2 : decide ((2000 : Int) < (t.size : Int)) = true := decide_eq_true (by omega)
                  have hke2 : ((k : Int) + (n : Int) == (s.size : Int)) = false := by rw [beq_eq_false_iff_ne]; omega
                  have HSn := Lib.hid (HS.out.step HFl.out (by rw [ba_len]; omega) HHd.out)
                  go_wp2_with (first | (go_at_call 39; refine (rquoted_is _ _ _ HT.out HN.out _ hrs).mono ?_; rintro e w2 ⟨rfl, hb2⟩; have HO2 := Lib.hid ((own_then HO.out hb2).alloc (.cells #[.string t, .bool true] 53)); have hsz2 : w.heap.size ≤ w2.heap.size := Nat.le_trans HB.out.size hb2.size; have HNe := Lib.hid (ne_new (own_then HO.out hb2)); have X3 : Hid (Fb w2.heap.size t true (w2.alloc (.cells #[.string t, .bool true] 53))) := heap_alloc_new _ _) | (at_builtin; refine wpList_append_own _ rfl _ _ 44 rfl w.heap.size 53 i0 (.agg #[.string ByteArray.empty, .bool false]) 2 24 Tryz.underlying44 hi0 hz0 hz1 hz2 rfl (by decide) _ pre.length (cellsF pre) rfl (HO2.out.alloc _) ⟨w2.heap.size + 1, 0, none⟩ 1 1 [.string t, .bool true] rfl rfl (by simpa using cell_two_new (w2.alloc (.cells #[.string t, .bool true] 53)) (.string t) (.bool true) 53) (by simp [Value.oneCell']) (by unfold maxLen; omega) (by omega) (by simp; omega) ?_; intro v' w1 hown1 hgrow hnil; obtain ⟨g', cap', rfl⟩ := ownsRow_succ hown1; have XA := Lib.hid ((X3.out.then ((Ow.refl _).alloc _)).gr hgrow HNe.out); have fa0 := XA.out.c0; have fa1 := XA.out.c1))
                  go_roundw
                  case rel => exact ⟨k + n + 1, _, _, by omega, by simp; omega, rfl, by go_num, by rw [any_snoc, ← HTL.out, longF_ba]; first | rfl | (rw [hlg.out]; rfl) | (rw [hlg.out]; simp [hlong]), own_snoc rfl hown1, (own_after (HO2.out.alloc _) hgrow (((HB.out.trans (hb2.mono HB.out.size)).alloc (by omega) _).alloc (by first | omega | (simp; omega)) _) (Nat.le_refl _)), HSn.out⟩
                  case measure => simp [intOf]; omega
                · have hlg : Hid (decide (2000 < t.size) = false) := decide_eq_false hlong
                  have e2 : decide ((2000 : Int) < (t.size : Int)) = false := decide_eq_false (by omega)
                  have hke2 : ((k : Int) + (n : Int) == (s.size : Int)) = false := by rw [beq_eq_false_iff_ne]; omega
                  have HSn := Lib.hid (HS.out.step HFl.out (by rw [ba_len]; omega) HHd.out)
                  go_wp2_with (first | (go_at_call 39; refine (rquoted_is _ _ _ HT.out HN.out _ hrs).mono ?_; rintro e w2 ⟨rfl, hb2⟩; have HO2 := Lib.hid ((own_then HO.out hb2).alloc (.cells #[.string t, .bool true] 53)); have hsz2 : w.heap.size ≤ w2.heap.size := Nat.le_trans HB.out.size hb2.size; have HNe := Lib.hid (ne_new (own_then HO.out hb2)); have X3 : Hid (Fb w2.heap.size t true (w2.alloc (.cells #[.string t, .bool true] 53))) := heap_alloc_new _ _) | (at_builtin; refine wpList_append_own _ rfl _ _ 44 rfl w.heap.size 53 i0 (.agg #[.string ByteArray.empty, .bool false]) 2 24 Tryz.underlying44 hi0 hz0 hz1 hz2 rfl (by decide) _ pre.length (cellsF pre) rfl (HO2.out.alloc _) ⟨w2.heap.size + 1, 0, none⟩ 1 1 [.string t, .bool true] rfl rfl (by simpa using cell_two_new (w2.alloc (.cells #[.string t, .bool true] 53)) (.string t) (.bool true) 53) (by simp [Value.oneCell']) (by unfold maxLen; omega) (by omega) (by simp; omega) ?_; intro v' w1 hown1 hgrow hnil; obtain ⟨g', cap', rfl⟩ := ownsRow_succ hown1; have XA := Lib.hid ((X3.out.then ((Ow.refl _).alloc _)).gr hgrow HNe.out); have fa0 := XA.out.c0; have fa1 := XA.out.c1))
                  go_roundw
                  case rel => exact ⟨k + n + 1, _, _, by omega, by simp; omega, rfl, by go_num, by rw [any_snoc, ← HTL.out, longF_ba]; first | rfl | (rw [hlg.out]; rfl) | (rw [hlg.out]; simp [hlong]), own_snoc rfl hown1, (own_after (HO2.out.alloc _) hgrow (((HB.out.trans (hb2.mono HB.out.size)).alloc (by omega) _).alloc (by first | omega | (simp; omega)) _) (Nat.le_refl _)), HSn.out⟩
                  case measure => simp [intOf]; omega
            · have HHd : Hid ((s.data.toList.drop (k + n)).head? ≠ some 32) := by
                rw [Hid, head_at hkn]
                intro e
                rw [Option.some.injEq] at e
                rw [e] at hm
                exact hm3 hm.symm
              have hm32 : ((m : Int) != 32) = true := by rw [bne_iff_ne]; omega
              clear hm3
              cases tl with
              | true =>
                have hke2 : ((k : Int) + (n : Int) == (s.size : Int)) = false := by rw [beq_eq_false_iff_ne]; omega
                have HR := Lib.hid (rs_bad H1.out H2.out (HS.out.off HFl.out (by rw [ba_len]; omega) HHd.out))
                go_wp2_with (first | (go_at_call 39; refine (rquoted_is _ _ _ HT.out HN.out _ hrs).mono ?_; rintro e w2 ⟨rfl, hb2⟩; have HO2 := Lib.hid ((own_then HO.out hb2).alloc (.cells #[.string t, .bool true] 53)); have hsz2 : w.heap.size ≤ w2.heap.size := Nat.le_trans HB.out.size hb2.size; have HNe := Lib.hid (ne_new (own_then HO.out hb2)); have X3 : Hid (Fb w2.heap.size t true (w2.alloc (.cells #[.string t, .bool true] 53))) := heap_alloc_new _ _) | (at_builtin; refine wpList_append_own _ rfl _ _ 44 rfl w.heap.size 53 i0 (.agg #[.string ByteArray.empty, .bool false]) 2 24 Tryz.underlying44 hi0 hz0 hz1 hz2 rfl (by decide) _ pre.length (cellsF pre) rfl (HO2.out.alloc _) ⟨w2.heap.size + 1, 0, none⟩ 1 1 [.string t, .bool true] rfl rfl (by simpa using cell_two_new (w2.alloc (.cells #[.string t, .bool true] 53)) (.string t) (.bool true) 53) (by simp [Value.oneCell']) (by unfold maxLen; omega) (by omega) (by simp; omega) ?_; intro v' w1 hown1 hgrow hnil; obtain ⟨g', cap', rfl⟩ := ownsRow_succ hown1; have XA := Lib.hid ((X3.out.then ((Ow.refl _).alloc _)).gr hgrow HNe.out); have fa0 := XA.out.c0; have fa1 := XA.out.c1))
                go_ret2
                unfold SPost
                rw [HR.out.1, HR.out.2]
                exact ⟨_, rfl, World.ownsRow_nil _ _ _ _, (own_after (HO2.out.alloc _) hgrow (((HB.out.trans (hb2.mono HB.out.size)).alloc (by omega) _).alloc (by first | omega | (simp; omega)) _) (Nat.le_refl _))⟩
              | false =>
                by_cases hlong : 2000 < t.size
                · have hlg : Hid (decide (2000 < t.size) = true) := decide_eq_true hlong
                  have e2 : decide ((2000 : Int) < (t.size : Int)) = true := decide_eq_true (by omega)
                  have hke2 : ((k : Int) + (n : Int) == (s.size : Int)) = false := by rw [beq_eq_false_iff_ne]; omega
                  have HR := Lib.hid (rs_bad H1.out H2.out (HS.out.off HFl.out (by rw [ba_len]; omega) HHd.out))
                  go_wp2_with (first | (go_at_call 39; refine (rquoted_is _ _ _ HT.out HN.out _ hrs).mono ?_; rintro e w2 ⟨rfl, hb2⟩; have HO2 := Lib.hid ((own_then HO.out hb2).alloc (.cells #[.string t, .bool true] 53)); have hsz2 : w.heap.size ≤ w2.heap.size := Nat.le_trans HB.out.size hb2.size; have HNe := Lib.hid (ne_new (own_then HO.out hb2)); have X3 : Hid (Fb w2.heap.size t true (w2.alloc (.cells #[.string t, .bool true] 53))) := heap_alloc_new _ _) | (at_builtin; refine wpList_append_own _ rfl _ _ 44 rfl w.heap.size 53 i0 (.agg #[.string ByteArray.empty, .bool false]) 2 24 Tryz.underlying44 hi0 hz0 hz1 hz2 rfl (by decide) _ pre.length (cellsF pre) rfl (HO2.out.alloc _) ⟨w2.heap.size + 1, 0, none⟩ 1 1 [.string t, .bool true] rfl rfl (by simpa using cell_two_new (w2.alloc (.cells #[.string t, .bool true] 53)) (.string t) (.bool true) 53) (by simp [Value.oneCell']) (by unfold maxLen; omega) (by omega) (by simp; omega) ?_; intro v' w1 hown1 hgrow hnil; obtain ⟨g', cap', rfl⟩ := ownsRow_succ hown1; have XA := Lib.hid ((X3.out.then ((Ow.refl _).alloc _)).gr hgrow HNe.out); have fa0 := XA.out.c0; have fa1 := XA.out.c1))
                  go_ret2
                  unfold SPost
                  rw [HR.out.1, HR.out.2]
                  exact ⟨_, rfl, World.ownsRow_nil _ _ _ _, (own_after (HO2.out.alloc _) hgrow (((HB.out.trans (hb2.mono HB.out.size)).alloc (by omega) _).alloc (by first | omega | (simp; omega)) _) (Nat.le_refl _))⟩
                · have hlg : Hid (decide (2000 < t.size) = false) := decide_eq_false hlong
                  have e2 : decide ((2000 : Int) < (t.size : Int)) = false := decide_eq_false (by omega)
                  have hke2 : ((k : Int) + (n : Int) == (s.size : Int)) = false := by rw [beq_eq_false_iff_ne]; omega
                  have HR := Lib.hid (rs_bad H1.out H2.out (HS.out.off HFl.out (by rw [ba_len]; omega) HHd.out))
                  go_wp2_with (first | (go_at_call 39; refine (rquoted_is _ _ _ HT.out HN.out _ hrs).mono ?_; rintro e w2 ⟨rfl, hb2⟩; have HO2 := Lib.hid ((own_then HO.out hb2).alloc (.cells #[.string t, .bool true] 53)); have hsz2 : w.heap.size ≤ w2.heap.size := Nat.le_trans HB.out.size hb2.size; have HNe := Lib.hid (ne_new (own_then HO.out hb2)); have X3 : Hid (Fb w2.heap.size t true (w2.alloc (.cells #[.string t, .bool true] 53))) := heap_alloc_new _ _) | (at_builtin; refine wpList_append_own _ rfl _ _ 44 rfl w.heap.size 53 i0 (.agg #[.string ByteArray.empty, .bool false]) 2 24 Tryz.underlying44 hi0 hz0 hz1 hz2 rfl (by decide) _ pre.length (cellsF pre) rfl (HO2.out.alloc _) ⟨w2.heap.size + 1, 0, none⟩ 1 1 [.string t, .bool true] rfl rfl (by simpa using cell_two_new (w2.alloc (.cells #[.string t, .bool true] 53)) (.string t) (.bool true) 53) (by simp [Value.oneCell']) (by unfold maxLen; omega) (by omega) (by simp; omega) ?_; intro v' w1 hown1 hgrow hnil; obtain ⟨g', cap', rfl⟩ := ownsRow_succ hown1; have XA := Lib.hid ((X3.out.then ((Ow.refl _).alloc _)).gr hgrow HNe.out); have fa0 := XA.out.c0; have fa1 := XA.out.c1))
                  go_ret2
                  unfold SPost
                  rw [HR.out.1, HR.out.2]
                  exact ⟨_, rfl, World.ownsRow_nil _ _ _ _, (own_after (HO2.out.alloc _) hgrow (((HB.out.trans (hb2.mono HB.out.size)).alloc (by omega) _).alloc (by first | omega | (simp; omega)) _) (Nat.le_refl _))⟩
        | none =>
          have HT : Hid ((⟨#[]⟩ : ByteArray).data.toList = unqS (s.extract k s.size).data.toList) := by rw [Hid, ext_drop, (Wd.unqN_none hu).2]
          have HN : Hid (unqN (s.extract k s.size).data.toList = 0) := by rw [Hid, ext_drop, (Wd.unqN_none hu).1]
          obtain ⟨b, hbb⟩ : ∃ b : Bool, bareB (word (s.data.toList.drop k)) = b := ⟨_, rfl⟩
          have HBb : Hid (bareB (s.extract k (k + (word (s.data.toList.drop k)).length)).data.toList = b) := by rw [Hid, ext_word, hbb]
          have hwl := Wd.word_le (s.data.toList.drop k)
          rw [List.length_drop, ba_len] at hwl
          have hfl : fieldAt (s.data.toList.drop k) = if b = true then some (((s.extract k (k + (word (s.data.toList.drop k)).length)).data.toList, false), (word (s.data.toList.drop k)).length) else none := by rw [fieldAt, hu, ext_word, ← hbb]
          have HFl := Lib.hid hfl
          obtain ⟨n, hn⟩ : ∃ n : Nat, (word (s.data.toList.drop k)).length = n := ⟨_, rfl⟩
          rw [hn] at HBb HFl hwl
          have HWa : Hid (∀ j, (hj : j < n) → (hk2 : k + j < s.size) → s[k + j] ≠ 32) := fun j hj hk2 => by
            obtain ⟨c, h1, h2⟩ := word_at (D := s.data.toList.drop k) (j := j) (by omega)
            rw [List.getElem?_drop, ba_at s _ hk2] at h1
            cases h1; exact h2
          have HWs : Hid (∀ (hk2 : k + n < s.size), s[k + n] = 32) := fun hk2 => by
            refine word_stop (D := s.data.toList.drop k) ?_
            rw [hn, List.getElem?_drop, ba_at s _ hk2]
          have hws : (s.extract k (k + n)).size ≤ 9000 := by rw [← ba_len, Lib.extract_data, List.length_take, List.length_drop, ba_len]; omega
          clear hu hbb hfl hn
          go_wp2_with (go_at_call 39; refine (rquoted_is _ _ _ HT.out HN.out _ hrs).mono ?_; rintro e w2 ⟨rfl, hb2⟩)
          have hsz2 : w.heap.size ≤ w2.heap.size := Nat.le_trans HB.out.size hb2.size
          go_loopw [8] (fun c wr' => ∃ j : Nat, j ≤ n ∧ c = .int .i64 j ∧ Fb w2.heap.size ⟨#[]⟩ true wr' ∧ wr'.ownsRow w.heap.size 53 2 u4 pre.length (cellsF pre) ∧ Ow w2 wr') (fun c _ => n - (intOf c).toNat)
          case atStart => exact ⟨0, by omega, rfl, heap_alloc_new _ _, (own_then HO.out hb2).alloc _, (Ow.refl _).alloc _⟩
          case round =>
            obtain ⟨j, hj, rfl, hfb, hoq, hwq⟩ := hrel
            have X0 := Lib.hid hfb
            have HOq := Lib.hid hoq
            have HWq := Lib.hid hwq
            clear hfb hoq hwq
            by_cases hjn : j < n
            · have hkj : k + j < s.size := by omega
              obtain ⟨m, hm⟩ : ∃ m : Nat, s[k + j].toNat = m := ⟨_, rfl⟩
              have hm32 : ((m : Int) != 32) = true := by
                rw [bne_iff_ne]
                intro e
                refine HWa.out j hjn hkj (UInt8.toNat_inj.1 ?_)
                rw [hm]
                exact (show m = 32 by omega)
              have hki : (k : Int) + (j : Int) < (s.size : Int) := by omega
              go_wp2
              go_roundw
              case rel => exact ⟨j + 1, by omega, by go_num, X0.out, HOq.out, HWq.out⟩
              case measure => simp [intOf]; omega
            · obtain rfl : j = n := by omega
              clear hj hjn HWa
              have X1 := Lib.hid (X0.out.setS (s.extract k (k + j)))
              have X2 := Lib.hid (X1.out.setQ false)
              have a0 := X0.out.c0
              have a1 := X0.out.c1
              have z0 := X0.out.z 0
              have z1 := X0.out.z 1
              have hne := ne_new (own_then HO.out hb2)
              have HOs : Hid (∀ x y, ((wr.setCell ⟨w2.heap.size, 0, none⟩ x).setCell ⟨w2.heap.size, 1, none⟩ y).ownsRow w.heap.size 53 2 u4 pre.length (cellsF pre)) := fun x y => (HOq.out.kept (grown_set _ _ _ _) hne).kept (grown_set _ _ _ _) hne
              have HNe := Lib.hid hne
              clear hne
              have HBs : Hid (∀ x y, Below w.heap.size w ((wr.setCell ⟨w2.heap.size, 0, none⟩ x).setCell ⟨w2.heap.size, 1, none⟩ y)) := fun x y => ((((HB.out.trans (hb2.mono HB.out.size)).trans (HWq.out.mono hsz2)).setCell (p := ⟨w2.heap.size, 0, none⟩) hsz2 _).setCell (p := ⟨w2.heap.size, 1, none⟩) hsz2 _)
              by_cases hkj : k + j < s.size
              · obtain ⟨m, hm⟩ : ∃ m : Nat, s[k + j].toNat = m := ⟨_, rfl⟩
                have HHd : Hid ((s.data.toList.drop (k + j)).head? = some 32) := by rw [Hid, head_at hkj, HWs.out hkj]
                have hm3 : m = 32 := by rw [← hm, HWs.out hkj]; rfl
                subst hm3
                have hki : (k : Int) + (j : Int) < (s.size : Int) := by omega
                have hmin : min (k + j) s.size - k = j := by omega
                have hxs : Hid ((s.extract k (k + j)).size = j) := by rw [Hid, ← ba_len, Lib.extract_data, List.length_take, List.length_drop, ba_len]; omega
                clear HWs
                cases b with
                | false =>
                  have HR := Lib.hid (rs_bad H1.out H2.out (HS.out.bad HFl.out))
                  go_wp2_with (go_at_call 40; refine (rbare_is _ _ HBb.out _ hws).mono ?_; rintro e w3 ⟨rfl, hb3⟩; have HO3 := Lib.hid (own_then (HOs.out _ _) hb3); have hsz3 : w.heap.size ≤ w3.heap.size := Nat.le_trans (Nat.le_trans hsz2 HWq.out.size) (by simpa using hb3.size); have X3 := Lib.hid (X2.out.then hb3); have b0 := X3.out.c0; have b1 := X3.out.c1)
                  go_ret2
                  unfold SPost
                  rw [HR.out.1, HR.out.2]
                  exact ⟨_, rfl, World.ownsRow_nil _ _ _ _, (HBs.out _ _).trans (hb3.mono (by simp; exact Nat.le_trans hsz2 HWq.out.size))⟩
                | true =>
                  have HFt : Hid (fieldAt (s.data.toList.drop k) = some (((s.extract k (k + j)).data.toList, false), j)) := HFl.out
                  cases tl with
                  | true =>
                    have hke2 : ((k : Int) + (j : Int) == (s.size : Int)) = false := by rw [beq_eq_false_iff_ne]; omega
                    have HSn := Lib.hid (HS.out.step HFt.out (by rw [ba_len]; omega) HHd.out)
                    go_wp2_with (first | (go_at_call 40; refine (rbare_is _ _ HBb.out _ hws).mono ?_; rintro e w3 ⟨rfl, hb3⟩; have HO3 := Lib.hid (own_then (HOs.out _ _) hb3); have hsz3 : w.heap.size ≤ w3.heap.size := Nat.le_trans (Nat.le_trans hsz2 HWq.out.size) (by simpa using hb3.size); have X3 := Lib.hid (X2.out.then hb3); have b0 := X3.out.c0; have b1 := X3.out.c1) | (at_builtin; refine wpList_append_own _ rfl _ _ 44 rfl w.heap.size 53 i0 (.agg #[.string ByteArray.empty, .bool false]) 2 24 Tryz.underlying44 hi0 hz0 hz1 hz2 rfl (by decide) _ pre.length (cellsF pre) rfl (HO3.out.alloc _) ⟨w3.heap.size, 0, none⟩ 1 1 [.string (s.extract k (k + j)), .bool false] rfl rfl (by simpa using cell_two_new w3 (.string (s.extract k (k + j))) (.bool false) 53) (by simp [Value.oneCell']) (by unfold maxLen; omega) (by omega) (by simp; omega) ?_; intro v' w1 hown1 hgrow hnil; obtain ⟨g', cap', rfl⟩ := ownsRow_succ hown1; have XA := Lib.hid ((X3.out.then ((Ow.refl _).alloc _)).gr hgrow HNe.out); have fa0 := XA.out.c0; have fa1 := XA.out.c1))
                    go_roundw
                    case rel => exact ⟨k + j + 1, _, _, by omega, by simp; omega, rfl, by go_num, by rw [any_snoc, ← HTL.out, longF_ba]; first | rfl | (rw [hlg.out]; rfl) | (rw [hlg.out]; simp [hlong]), own_snoc rfl hown1, (own_after (HO3.out.alloc _) hgrow (((HBs.out _ _).trans (hb3.mono (by simp; exact Nat.le_trans hsz2 HWq.out.size))).alloc (by first | omega | (simp; omega)) _) (Nat.le_refl _)), HSn.out⟩
                    case measure => simp [intOf]; omega
                  | false =>
                    by_cases hlong : 2000 < j
                    · have hlg : Hid (decide (2000 < (s.extract k (k + j)).size) = true) := by rw [Hid, hxs.out]; exact decide_eq_true hlong
                      have e2 : decide ((2000 : Int) < (j : Int)) = true := decide_eq_true (by omega)
                      have hke2 : ((k : Int) + (j : Int) == (s.size : Int)) = false := by rw [beq_eq_false_iff_ne]; omega
                      have HSn := Lib.hid (HS.out.step HFt.out (by rw [ba_len]; omega) HHd.out)
                      go_wp2_with (first | (go_at_call 40; refine (rbare_is _ _ HBb.out _ hws).mono ?_; rintro e w3 ⟨rfl, hb3⟩; have HO3 := Lib.hid (own_then (HOs.out _ _) hb3); have hsz3 : w.heap.size ≤ w3.heap.size := Nat.le_trans (Nat.le_trans hsz2 HWq.out.size) (by simpa using hb3.size); have X3 := Lib.hid (X2.out.then hb3); have b0 := X3.out.c0; have b1 := X3.out.c1) | (at_builtin; refine wpList_append_own _ rfl _ _ 44 rfl w.heap.size 53 i0 (.agg #[.string ByteArray.empty, .bool false]) 2 24 Tryz.underlying44 hi0 hz0 hz1 hz2 rfl (by decide) _ pre.length (cellsF pre) rfl (HO3.out.alloc _) ⟨w3.heap.size, 0, none⟩ 1 1 [.string (s.extract k (k + j)), .bool false] rfl rfl (by simpa using cell_two_new w3 (.string (s.extract k (k + j))) (.bool false) 53) (by simp [Value.oneCell']) (by unfold maxLen; omega) (by omega) (by simp; omega) ?_; intro v' w1 hown1 hgrow hnil; obtain ⟨g', cap', rfl⟩ := ownsRow_succ hown1; have XA := Lib.hid ((X3.out.then ((Ow.refl _).alloc _)).gr hgrow HNe.out); have fa0 := XA.out.c0; have fa1 := XA.out.c1))
                      go_roundw
                      case rel => exact ⟨k + j + 1, _, _, by omega, by simp; omega, rfl, by go_num, by rw [any_snoc, ← HTL.out, longF_ba]; first | rfl | (rw [hlg.out]; rfl) | (rw [hlg.out]; simp [hlong]), own_snoc rfl hown1, (own_after (HO3.out.alloc _) hgrow (((HBs.out _ _).trans (hb3.mono (by simp; exact Nat.le_trans hsz2 HWq.out.size))).alloc (by first | omega | (simp; omega)) _) (Nat.le_refl _)), HSn.out⟩
                      case measure => simp [intOf]; omega
                    · have hlg : Hid (decide (2000 < (s.extract k (k + j)).size) = false) := by rw [Hid, hxs.out]; exact decide_eq_false hlong
                      have e2 : decide ((2000 : Int) < (j : Int)) = false := decide_eq_false (by omega)
                      have hke2 : ((k : Int) + (j : Int) == (s.size : Int)) = false := by rw [beq_eq_false_iff_ne]; omega
                      have HSn := Lib.hid (HS.out.step HFt.out (by rw [ba_len]; omega) HHd.out)
                      go_wp2_with (first | (go_at_call 40; refine (rbare_is _ _ HBb.out _ hws).mono ?_; rintro e w3 ⟨rfl, hb3⟩; have HO3 := Lib.hid (own_then (HOs.out _ _) hb3); have hsz3 : w.heap.size ≤ w3.heap.size := Nat.le_trans (Nat.le_trans hsz2 HWq.out.size) (by simpa using hb3.size); have X3 := Lib.hid (X2.out.then hb3); have b0 := X3.out.c0; have b1 := X3.out.c1) | (at_builtin; refine wpList_append_own _ rfl _ _ 44 rfl w.heap.size 53 i0 (.agg #[.string ByteArray.empty, .bool false]) 2 24 Tryz.underlying44 hi0 hz0 hz1 hz2 rfl (by decide) _ pre.length (cellsF pre) rfl (HO3.out.alloc _) ⟨w3.heap.size, 0, none⟩ 1 1 [.string (s.extract k (k + j)), .bool false] rfl rfl (by simpa using cell_two_new w3 (.string (s.extract k (k + j))) (.bool false) 53) (by simp [Value.oneCell']) (by unfold maxLen; omega) (by omega) (by simp; omega) ?_; intro v' w1 hown1 hgrow hnil; obtain ⟨g', cap', rfl⟩ := ownsRow_succ hown1; have XA := Lib.hid ((X3.out.then ((Ow.refl _).alloc _)).gr hgrow HNe.out); have fa0 := XA.out.c0; have fa1 := XA.out.c1))
                      go_roundw
                      case rel => exact ⟨k + j + 1, _, _, by omega, by simp; omega, rfl, by go_num, by rw [any_snoc, ← HTL.out, longF_ba]; first | rfl | (rw [hlg.out]; rfl) | (rw [hlg.out]; simp [hlong]), own_snoc rfl hown1, (own_after (HO3.out.alloc _) hgrow (((HBs.out _ _).trans (hb3.mono (by simp; exact Nat.le_trans hsz2 HWq.out.size))).alloc (by first | omega | (simp; omega)) _) (Nat.le_refl _)), HSn.out⟩
                      case measure => simp [intOf]; omega
              · have hki : decide ((k : Int) + (j : Int) < (s.size : Int)) = false := decide_eq_false (by omega)
                have hmin : min (k + j) s.size - k = j := by omega
                have hsk : s.size - k = j := by omega
                have hxs : Hid ((s.extract k (k + j)).size = j) := by rw [Hid, ← ba_len, Lib.extract_data, List.length_take, List.length_drop, ba_len]; omega
                have hke : s.size ≤ k + j := by omega
                clear HWs
                cases b with
                | false =>
                  have HR := Lib.hid (rs_bad H1.out H2.out (HS.out.bad HFl.out))
                  go_wp2_with (go_at_call 40; refine (rbare_is _ _ HBb.out _ hws).mono ?_; rintro e w3 ⟨rfl, hb3⟩; have HO3 := Lib.hid (own_then (HOs.out _ _) hb3); have hsz3 : w.heap.size ≤ w3.heap.size := Nat.le_trans (Nat.le_trans hsz2 HWq.out.size) (by simpa using hb3.size); have X3 := Lib.hid (X2.out.then hb3); have b0 := X3.out.c0; have b1 := X3.out.c1)
                  go_ret2
                  unfold SPost
                  rw [HR.out.1, HR.out.2]
                  exact ⟨_, rfl, World.ownsRow_nil _ _ _ _, (HBs.out _ _).trans (hb3.mono (by simp; exact Nat.le_trans hsz2 HWq.out.size))⟩
                | true =>
                  have HFt : Hid (fieldAt (s.data.toList.drop k) = some (((s.extract k (k + j)).data.toList, false), j)) := HFl.out
                  cases tl with
                  | true =>
                    have hke2 : ((k : Int) + (j : Int) == (s.size : Int)) = true := by rw [beq_iff_eq]; omega
                    have HL := Lib.hid (HS.out.last HFt.out (by rw [ba_len]; omega))
                    have HR : Hid (splitS s.data.toList = [] ∧ splitE s.data.toList = 3) := rs_long H1.out H2.out HL.out (.inl (by rw [any_snoc, ← HTL.out, longF]; simp only [ba_len]; first | rfl | rw [hlg.out]; rfl))
                    go_wp2_with (first | (go_at_call 40; refine (rbare_is _ _ HBb.out _ hws).mono ?_; rintro e w3 ⟨rfl, hb3⟩; have HO3 := Lib.hid (own_then (HOs.out _ _) hb3); have hsz3 : w.heap.size ≤ w3.heap.size := Nat.le_trans (Nat.le_trans hsz2 HWq.out.size) (by simpa using hb3.size); have X3 := Lib.hid (X2.out.then hb3); have b0 := X3.out.c0; have b1 := X3.out.c1) | (at_builtin; refine wpList_append_own _ rfl _ _ 44 rfl w.heap.size 53 i0 (.agg #[.string ByteArray.empty, .bool false]) 2 24 Tryz.underlying44 hi0 hz0 hz1 hz2 rfl (by decide) _ pre.length (cellsF pre) rfl (HO3.out.alloc _) ⟨w3.heap.size, 0, none⟩ 1 1 [.string (s.extract k (k + j)), .bool false] rfl rfl (by simpa using cell_two_new w3 (.string (s.extract k (k + j))) (.bool false) 53) (by simp [Value.oneCell']) (by unfold maxLen; omega) (by omega) (by simp; omega) ?_; intro v' w1 hown1 hgrow hnil; obtain ⟨g', cap', rfl⟩ := ownsRow_succ hown1; have XA := Lib.hid ((X3.out.then ((Ow.refl _).alloc _)).gr hgrow HNe.out); have fa0 := XA.out.c0; have fa1 := XA.out.c1))
                    go_ret2
                    unfold SPost
                    rw [HR.out.1, HR.out.2]
                    exact ⟨_, rfl, World.ownsRow_nil _ _ _ _, (own_after (HO3.out.alloc _) hgrow (((HBs.out _ _).trans (hb3.mono (by simp; exact Nat.le_trans hsz2 HWq.out.size))).alloc (by first | omega | (simp; omega)) _) (Nat.le_refl _))⟩
                  | false =>
                    by_cases hlong : 2000 < j
                    · have hlg : Hid (decide (2000 < (s.extract k (k + j)).size) = true) := by rw [Hid, hxs.out]; exact decide_eq_true hlong
                      have e2 : decide ((2000 : Int) < (j : Int)) = true := decide_eq_true (by omega)
                      have hke2 : ((k : Int) + (j : Int) == (s.size : Int)) = true := by rw [beq_iff_eq]; omega
                      have HL := Lib.hid (HS.out.last HFt.out (by rw [ba_len]; omega))
                      have HR : Hid (splitS s.data.toList = [] ∧ splitE s.data.toList = 3) := rs_long H1.out H2.out HL.out (.inl (by rw [any_snoc, ← HTL.out, longF]; simp only [ba_len]; first | rfl | rw [hlg.out]; rfl))
                      go_wp2_with (first | (go_at_call 40; refine (rbare_is _ _ HBb.out _ hws).mono ?_; rintro e w3 ⟨rfl, hb3⟩; have HO3 := Lib.hid (own_then (HOs.out _ _) hb3); have hsz3 : w.heap.size ≤ w3.heap.size := Nat.le_trans (Nat.le_trans hsz2 HWq.out.size) (by simpa using hb3.size); have X3 := Lib.hid (X2.out.then hb3); have b0 := X3.out.c0; have b1 := X3.out.c1) | (at_builtin; refine wpList_append_own _ rfl _ _ 44 rfl w.heap.size 53 i0 (.agg #[.string ByteArray.empty, .bool false]) 2 24 Tryz.underlying44 hi0 hz0 hz1 hz2 rfl (by decide) _ pre.length (cellsF pre) rfl (HO3.out.alloc _) ⟨w3.heap.size, 0, none⟩ 1 1 [.string (s.extract k (k + j)), .bool false] rfl rfl (by simpa using cell_two_new w3 (.string (s.extract k (k + j))) (.bool false) 53) (by simp [Value.oneCell']) (by unfold maxLen; omega) (by omega) (by simp; omega) ?_; intro v' w1 hown1 hgrow hnil; obtain ⟨g', cap', rfl⟩ := ownsRow_succ hown1; have XA := Lib.hid ((X3.out.then ((Ow.refl _).alloc _)).gr hgrow HNe.out); have fa0 := XA.out.c0; have fa1 := XA.out.c1))
                      go_ret2
                      unfold SPost
                      rw [HR.out.1, HR.out.2]
                      exact ⟨_, rfl, World.ownsRow_nil _ _ _ _, (own_after (HO3.out.alloc _) hgrow (((HBs.out _ _).trans (hb3.mono (by simp; exact Nat.le_trans hsz2 HWq.out.size))).alloc (by first | omega | (simp; omega)) _) (Nat.le_refl _))⟩
                    · have hlg : Hid (decide (2000 < (s.extract k (k + j)).size) = false) := by rw [Hid, hxs.out]; exact decide_eq_false hlong
                      have e2 : decide ((2000 : Int) < (j : Int)) = false := decide_eq_false (by omega)
                      have hke2 : ((k : Int) + (j : Int) == (s.size : Int)) = true := by rw [beq_iff_eq]; omega
                      have HL := Lib.hid (HS.out.last HFt.out (by rw [ba_len]; omega))
                      by_cases h64 : 64 < pre.length + 1
                      · have HR : Hid (splitS s.data.toList = [] ∧ splitE s.data.toList = 3) := rs_long H1.out H2.out HL.out (.inr (by rw [List.length_append]; exact h64))
                        have h64i : (64 : Int) < (pre.length : Int) + 1 := by omega
                        have h64n : (64 : Int) < ((pre.length + 1 : Nat) : Int) := by omega
                        go_wp2_with (first | (go_at_call 40; refine (rbare_is _ _ HBb.out _ hws).mono ?_; rintro e w3 ⟨rfl, hb3⟩; have HO3 := Lib.hid (own_then (HOs.out _ _) hb3); have hsz3 : w.heap.size ≤ w3.heap.size := Nat.le_trans (Nat.le_trans hsz2 HWq.out.size) (by simpa using hb3.size); have X3 := Lib.hid (X2.out.then hb3); have b0 := X3.out.c0; have b1 := X3.out.c1) | (at_builtin; refine wpList_append_own _ rfl _ _ 44 rfl w.heap.size 53 i0 (.agg #[.string ByteArray.empty, .bool false]) 2 24 Tryz.underlying44 hi0 hz0 hz1 hz2 rfl (by decide) _ pre.length (cellsF pre) rfl (HO3.out.alloc _) ⟨w3.heap.size, 0, none⟩ 1 1 [.string (s.extract k (k + j)), .bool false] rfl rfl (by simpa using cell_two_new w3 (.string (s.extract k (k + j))) (.bool false) 53) (by simp [Value.oneCell']) (by unfold maxLen; omega) (by omega) (by simp; omega) ?_; intro v' w1 hown1 hgrow hnil; obtain ⟨g', cap', rfl⟩ := ownsRow_succ hown1; have XA := Lib.hid ((X3.out.then ((Ow.refl _).alloc _)).gr hgrow HNe.out); have fa0 := XA.out.c0; have fa1 := XA.out.c1))
                        go_ret2
                        unfold SPost
                        rw [HR.out.1, HR.out.2]
                        exact ⟨_, rfl, World.ownsRow_nil _ _ _ _, (own_after (HO3.out.alloc _) hgrow (((HBs.out _ _).trans (hb3.mono (by simp; exact Nat.le_trans hsz2 HWq.out.size))).alloc (by first | omega | (simp; omega)) _) (Nat.le_refl _))⟩
                      · have HR : Hid (splitS s.data.toList = _ ∧ splitE s.data.toList = 0) := rs_ok H1.out H2.out HL.out (not_or.2 ⟨by rw [any_snoc, ← HTL.out, longF]; simp only [ba_len]; rw [hlg.out]; simp, by rw [List.length_append]; exact h64⟩)
                        have h64i : decide ((64 : Int) < (pre.length : Int) + 1) = false := decide_eq_false (by omega)
                        have h64n : decide ((64 : Int) < ((pre.length + 1 : Nat) : Int)) = false := decide_eq_false (by omega)
                        go_wp2_with (first | (go_at_call 40; refine (rbare_is _ _ HBb.out _ hws).mono ?_; rintro e w3 ⟨rfl, hb3⟩; have HO3 := Lib.hid (own_then (HOs.out _ _) hb3); have hsz3 : w.heap.size ≤ w3.heap.size := Nat.le_trans (Nat.le_trans hsz2 HWq.out.size) (by simpa using hb3.size); have X3 := Lib.hid (X2.out.then hb3); have b0 := X3.out.c0; have b1 := X3.out.c1) | (at_builtin; refine wpList_append_own _ rfl _ _ 44 rfl w.heap.size 53 i0 (.agg #[.string ByteArray.empty, .bool false]) 2 24 Tryz.underlying44 hi0 hz0 hz1 hz2 rfl (by decide) _ pre.length (cellsF pre) rfl (HO3.out.alloc _) ⟨w3.heap.size, 0, none⟩ 1 1 [.string (s.extract k (k + j)), .bool false] rfl rfl (by simpa using cell_two_new w3 (.string (s.extract k (k + j))) (.bool false) 53) (by simp [Value.oneCell']) (by unfold maxLen; omega) (by omega) (by simp; omega) ?_; intro v' w1 hown1 hgrow hnil; obtain ⟨g', cap', rfl⟩ := ownsRow_succ hown1; have XA := Lib.hid ((X3.out.then ((Ow.refl _).alloc _)).gr hgrow HNe.out); have fa0 := XA.out.c0; have fa1 := XA.out.c1))
                        go_ret2
                        unfold SPost
                        rw [HR.out.1, HR.out.2]
                        exact ⟨_, rfl, own_snoc rfl hown1, (own_after (HO3.out.alloc _) hgrow (((HBs.out _ _).trans (hb3.mono (by simp; exact Nat.le_trans hsz2 HWq.out.size))).alloc (by first | omega | (simp; omega)) _) (Nat.le_refl _))⟩
end Go.Proofs.YtaojogaakhidhaaGreatDoor

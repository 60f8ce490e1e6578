/- The reference of chapter 1: bare, Split (printed by gen/wrspl.py). -/
import Derived.Test.YtabopillicdjaaaGreatDoorQ1
namespace Go.Proofs.YtabopillicdjaaaGreatDoor
open Go.RowKit
open Wd (plainB bareB bareC fieldAt word unq unqS unqN spl splitS splitE longF)

theorem rs_long {l : List UInt8} {fs : List (List UInt8 × Bool)} (h1 : ¬ 8192 < l.length) (h2 : l ≠ []) (h : spl l = some fs) (hl : fs.any longF = true ∨ 64 < fs.length) : splitS l = [] ∧ splitE l = 3 := by
  simp only [splitS, splitE, h]
  rw [if_neg (not_or.2 ⟨h1, h2⟩), if_neg h1, if_neg h2, if_pos hl, if_pos hl]; exact ⟨rfl, rfl⟩
theorem rs_ok {l : List UInt8} {fs : List (List UInt8 × Bool)} (h1 : ¬ 8192 < l.length) (h2 : l ≠ []) (h : spl l = some fs) (hl : ¬ (fs.any longF = true ∨ 64 < fs.length)) : splitS l = fs ∧ splitE l = 0 := by
  simp only [splitS, splitE, h]
  rw [if_neg (not_or.2 ⟨h1, h2⟩), if_neg h1, if_neg h2, if_neg hl, if_neg hl]; exact ⟨rfl, rfl⟩
theorem rs_bad {l : List UInt8} (h1 : ¬ 8192 < l.length) (h2 : l ≠ []) (h : spl l = none) : splitS l = [] ∧ splitE l = 6 := by
  simp only [splitS, splitE, h]
  rw [if_neg (not_or.2 ⟨h1, h2⟩), if_neg h1, if_neg h2]; exact ⟨rfl, rfl⟩
theorem Fb.gr {b : Nat} {S : ByteArray} {q : Bool} {w w' : World} {row : Option Nat} (h : Fb b S q w) (hg : w.grownBy w' row) (hr : row = none ∨ row ≠ some b) : Fb b S q w' :=
  (hg.block b h.lt (fun e => by rcases hr with hr | hr; · rw [hr] at e; cases e
                                · exact hr e.symm)).trans h
theorem longF_ba (t : ByteArray) (q : Bool) : longF (t.data.toList, q) = decide (2000 < t.size) := by rw [longF, ba_len]
theorem own_snoc {w : World} {base : Nat} {v : Value} {pre : List (List UInt8 × Bool)} {x : List UInt8 × Bool} {t : ByteArray} {q : Bool} (hx : x = (t.data.toList, q)) (h : w.ownsRow base 51 2 v (pre.length + 1) (cellsF pre ++ [.string t, .bool q])) : w.ownsRow base 51 2 v (pre ++ [x]).length (cellsF (pre ++ [x])) := by
  subst hx
  rw [List.length_append, cellsF_snoc]
  simp only [ba_mk]
  exact h
theorem ne_new {w : World} {base : Nat} {e : TypeId} {size : Nat} {v : Value} {n : Nat} {xs : List Value} (h : w.ownsRow base e size v n xs) : v.ownBlock = none ∨ v.ownBlock ≠ some w.heap.size := by
  cases e : v.ownBlock with
  | none => exact .inl rfl
  | some k => exact .inr (by have := (h.lt k e).2; simp; omega)
/-- What is read when the next field begins at k. -/
def Sp (l : List UInt8) (k : Nat) (pre : List (List UInt8 × Bool)) : Prop := spl l = (spl (l.drop k)).map (pre ++ ·)
theorem Sp.start (l : List UInt8) : Sp l 0 [] := by
  unfold Sp
  rw [List.drop_zero]
  cases spl l <;> rfl
theorem Sp.bad {l : List UInt8} {k : Nat} {pre : List (List UInt8 × Bool)} (h : Sp l k pre) (hf : fieldAt (l.drop k) = none) : spl l = none := by
  rw [h, Wd.spl_no hf]; rfl
theorem Sp.last {l : List UInt8} {k : Nat} {pre : List (List UInt8 × Bool)} (h : Sp l k pre) {x : List UInt8 × Bool} {n : Nat} (hf : fieldAt (l.drop k) = some (x, n)) (he : l.length ≤ k + n) : spl l = some (pre ++ [x]) := by
  rw [h, Wd.spl_last hf (by rw [List.drop_drop]; exact List.drop_eq_nil_iff.2 he)]; rfl
theorem Sp.off {l : List UInt8} {k : Nat} {pre : List (List UInt8 × Bool)} (h : Sp l k pre) {x : List UInt8 × Bool} {n : Nat} (hf : fieldAt (l.drop k) = some (x, n)) (he : k + n < l.length) (hh : (l.drop (k + n)).head? ≠ some 32) : spl l = none := by
  rw [h, Wd.spl_bad hf (by rw [List.drop_drop]; exact fun e => by have := List.drop_eq_nil_iff.1 e; omega) (by rwa [List.drop_drop])]; rfl
theorem Sp.step {l : List UInt8} {k : Nat} {pre : List (List UInt8 × Bool)} (h : Sp l k pre) {x : List UInt8 × Bool} {n : Nat} (hf : fieldAt (l.drop k) = some (x, n)) (he : k + n < l.length) (hh : (l.drop (k + n)).head? = some 32) : Sp l (k + n + 1) (pre ++ [x]) := by
  unfold Sp
  rw [h, Wd.spl_more hf (by rw [List.drop_drop]; exact fun e => by have := List.drop_eq_nil_iff.1 e; omega) (by rwa [List.drop_drop]), List.drop_drop, Nat.add_assoc k n 1]
  cases spl (List.drop (k + (n + 1)) l) <;> simp
theorem word_at {D : List UInt8} {j : Nat} (h : j < (word D).length) : ∃ c, D[j]? = some c ∧ c ≠ 32 := by
  have hp := List.takeWhile_prefix (fun c : UInt8 => c != 32) (l := D)
  have h1 : (word D)[j]? = some (word D)[j] := List.getElem?_eq_getElem h
  refine ⟨(word D)[j], ?_, ?_⟩
  · obtain ⟨t, ht⟩ := hp
    have h2 : (word D ++ t)[j]? = some (word D)[j] := by rw [List.getElem?_append_left h]; exact h1
    rwa [show word D ++ t = D from ht] at h2
  · have := List.all_takeWhile (p := fun c : UInt8 => c != 32) (l := D)
    have := List.all_eq_true.1 this _ (List.mem_of_getElem? h1)
    simpa using this
theorem word_stop : ∀ {D : List UInt8} {c : UInt8}, D[(word D).length]? = some c → c = 32
  | [], c, h => by simp at h
  | d :: D, c, h => by
    by_cases hd : d = 32
    · subst hd
      simp [word] at h
      exact h.symm
    · have e : word (d :: D) = d :: word D := by simp [word, hd]
      rw [e, List.length_cons, List.getElem?_cons_succ] at h
      exact word_stop h
theorem word_take (D : List UInt8) : D.take (word D).length = word D := (List.prefix_iff_eq_take.1 (List.takeWhile_prefix _)).symm
theorem ext_drop (s : ByteArray) (k : Nat) : (s.extract k s.size).data.toList = s.data.toList.drop k := by
  rw [Lib.extract_data, List.take_of_length_le (by rw [List.length_drop, ba_len]; omega)]
theorem ext_word (s : ByteArray) (k : Nat) : (s.extract k (k + (word (s.data.toList.drop k)).length)).data.toList = word (s.data.toList.drop k) := by
  rw [Lib.extract_data, Nat.add_sub_cancel_left, word_take]
theorem head_at {s : ByteArray} {k : Nat} (h : k < s.size) : (s.data.toList.drop k).head? = some s[k] := by rw [ba_drop s k h]; rfl
theorem any_snoc (pre : List (List UInt8 × Bool)) (x : List UInt8 × Bool) : (pre ++ [x]).any longF = (pre.any longF || longF x) := by simp

end Go.Proofs.YtabopillicdjaaaGreatDoor

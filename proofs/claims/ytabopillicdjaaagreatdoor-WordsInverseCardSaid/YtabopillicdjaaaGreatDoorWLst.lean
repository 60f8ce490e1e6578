/- Package words: the walk of List. -/
import Derived.Test.YtabopillicdjaaaGreatDoorWDec
import Derived.Test.YtabopillicdjaaaGreatDoorWList
import Derived.Test.YtabopillicdjaaaGreatDoorShelf2
import Derived.Deep.QuietTactic
import Derived.BigQuiet
import Derived.Outline
namespace Go.Proofs.YtabopillicdjaaaGreatDoor
open Go.RowKit
open Wd (restT listT ascB outB listE listS)

theorem dec_short (u : Nat) : (Lib.decDigits u).length ≤ u + 1 := by
  induction u using Nat.strongRecOn with
  | _ u ih =>
    by_cases h : u < 10
    · rw [Wd.dec_small h]; simp
    · rw [Wd.dec_big h, List.length_append]
      have := ih (u / 10) (by omega)
      simp only [List.length_singleton]; omega
theorem itoa_short {n : Int} (h0 : 0 ≤ n) (h1 : n ≤ 1000000000) : (Lib.itoa n).length ≤ 1000000001 := by
  unfold Lib.itoa
  rw [if_neg (by omega)]
  have := dec_short n.toNat
  omega

/-- A Builder of the call's own, in block b, holding l. -/
def Bd (b : Nat) (l : List UInt8) (w : World) : Prop := Lib.IsBuilder 66 5 b b (Lib.byteCells l) w
theorem Bd.new (w : World) : Bd w.heap.size [] (w.alloc (.cells #[.pointer none, .slice none 0 0] 66)) := Lib.fresh_isBuilder _ _ w
theorem Bd.then {b : Nat} {l : List UInt8} {w w' : World} (h : Bd b l w) (hb : Below w.heap.size w w') : Bd b l w' := by
  have go : ∀ p, Lib.BuilderAt 66 5 b b p (Lib.byteCells l) w → Lib.BuilderAt 66 5 b b p (Lib.byteCells l) w' := fun p hp => by
    have hlt := hp.lt
    obtain ⟨h1, v, h2, h3, h4⟩ := hp
    exact ⟨h1, v, (hb.block b hlt).trans h2, own_then h3 hb, h4⟩
  rcases h with h | h
  · exact .inl (go _ h)
  · exact .inr (go _ h)
theorem Bd.len (b : Nat) (l : List UInt8) (w : World) (h : Bd b l w) : Calls Tryz.prog 29 #[.pointer (some ⟨b, 0, none⟩)] w fun e w' => e = .returned (.int .i64 (l.length : Int)) ∧ w = w' := by
  refine (Tryz.Builder_Len b b _ w h).mono fun e w' ⟨h1, h2⟩ => ⟨?_, h2.symm⟩
  rw [h1]; simp [Lib.byteCells]
theorem Bd.byte (b : Nat) (l : List UInt8) (c : UInt8) (w : World) (h : Bd b l w) (hl : l.length ≤ 100000000000000) (hw : b ≤ w.heap.size) : Calls Tryz.prog 30 #[.pointer (some ⟨b, 0, none⟩), .int .u8 (c.toNat : Int)] w fun e w' => e = .returned .nilIface ∧ Bd b (l ++ [c]) w' ∧ Below b w w' := by
  refine (Tryz.Builder_WriteByte b b _ _ w h (by simp [Lib.byteCells]; omega) hw).mono fun e w' ⟨h1, h2, h3⟩ => ⟨h1, .inr ?_, h3⟩
  simpa [Lib.byteCells] using h2
theorem Bd.str (b : Nat) (l : List UInt8) (s : ByteArray) (m : List UInt8) (hm : s.data.toList = m) (w : World) (h : Bd b l w) (hl : l.length ≤ 100000000000000) (hs : m.length ≤ 10000000000000) (hw : b ≤ w.heap.size) : Calls Tryz.prog 31 #[.pointer (some ⟨b, 0, none⟩), .string s] w fun e w' => (∃ v, e = .returned v) ∧ Bd b (l ++ m) w' ∧ Below b w w' := by
  subst hm
  rw [ba_len] at hs
  refine (Tryz.Builder_WriteString b b _ _ w h (by simp [Lib.byteCells]; omega) hw).mono fun e w' ⟨h1, h2, h3⟩ => ⟨⟨_, h1⟩, .inr ?_, h3⟩
  have : Lib.byteCells (l ++ s.data.toList) = Lib.byteCells l ++ Lib.strCells s := by simp [Lib.byteCells, Lib.strCells]
  rw [this]; exact h2
theorem itoa_any (n : Int) (w : World) (hg : Gl w) (h0 : Ends n n) : Calls Tryz.prog 32 #[.int .i64 n] w fun e w' => e = .returned (.string ⟨(Lib.itoa n).toArray⟩) ∧ Ow w w' := by
  exact (Tryz.strconv_Itoa n h0.1 h0.2 w hg.pow).mono fun e w' ⟨h1, h2⟩ => ⟨h1, (Ow.refl w).grown h2⟩

/-- A slice of ints that lies in memory. -/
def Ints (w : World) (g off : Nat) (l : List Int) : Prop := g < w.heap.size ∧ ∀ (i : Nat) x, l[i]? = some x → w.cell? ⟨g, off + i, none⟩ = some (.int .i64 x)
theorem Ints.then {w w' : World} {g off : Nat} {l : List Int} (h : Ints w g off l) (hb : Below w.heap.size w w') : Ints w' g off l := ⟨Nat.lt_of_lt_of_le h.1 hb.size, fun i x hx => (hb.cell (p := ⟨g, off + i, none⟩) h.1).trans (h.2 i x hx)⟩
def LPost (l : List Int) (w : World) (e : Ending) (w' : World) : Prop := e = .returned (.tuple #[.string ⟨(listS l).toArray⟩, .int .i64 (listE l)]) ∧ Below w.heap.size w w'
/-- What stands while a list is written. -/
structure LS (w : World) (g off : Nat) (l : List Int) (bs : List UInt8) (W : World) : Prop where
  bd : Bd w.heap.size bs W
  low : Below w.heap.size w W
  ints : Ints w g off l
theorem LS.then {w W w' : World} {g off : Nat} {l : List Int} {bs : List UInt8} (h : LS w g off l bs W) (hb : Ow W w') : LS w g off l bs w' := ⟨h.bd.then hb, Ow.then h.low hb, h.ints⟩
theorem LS.cell {w W : World} {g off : Nat} {l : List Int} {bs : List UInt8} (h : LS w g off l bs W) {i : Nat} {x : Int} (hx : l[i]? = some x) : W.cell? ⟨g, off + i, none⟩ = some (.int .i64 x) := (h.low.cell (p := ⟨g, off + i, none⟩) h.ints.1).trans (h.ints.2 i x hx)
theorem LS.byte {w W : World} {g off : Nat} {l : List Int} {bs : List UInt8} (h : LS w g off l bs W) (hl : bs.length ≤ 100000000000000) : Calls Tryz.prog 30 #[.pointer (some ⟨w.heap.size, 0, none⟩), .int .u8 44] W fun e w' => e = .returned .nilIface ∧ LS w g off l (bs ++ [44]) w' :=
  (Bd.byte _ _ 44 W h.bd hl h.low.size).mono fun _ _ ⟨h1, h2, h3⟩ => ⟨h1, h2, h.low.trans h3, h.ints⟩
theorem LS.str {w W : World} {g off : Nat} {l : List Int} {bs : List UInt8} (h : LS w g off l bs W) (s : ByteArray) (m : List UInt8) (hm : s.data.toList = m) (hl : bs.length ≤ 100000000000000) (hs : m.length ≤ 10000000000000) : Calls Tryz.prog 31 #[.pointer (some ⟨w.heap.size, 0, none⟩), .string s] W fun e w' => (∃ v, e = .returned v) ∧ LS w g off l (bs ++ m) w' :=
  (Bd.str _ _ s m hm W h.bd hl hs h.low.size).mono fun _ _ ⟨h1, h2, h3⟩ => ⟨h1, h2, h.low.trans h3, h.ints⟩
theorem LS.itoa {w W : World} {g off : Nat} {l : List Int} {bs : List UInt8} (h : LS w g off l bs W) (hg : Gl w) (n : Int) (h0 : Ends n n) : Calls Tryz.prog 32 #[.int .i64 n] W fun e w' => e = .returned (.string ⟨(Lib.itoa n).toArray⟩) ∧ LS w g off l bs w' :=
  (itoa_any n W (hg.below h.low) h0).mono fun _ _ ⟨h1, h2⟩ => ⟨h1, h.then h2⟩

/-- The first k integers ascend. -/
def ascTo (l : List Int) (k : Nat) : Prop := ∀ (j : Nat) a b, j + 1 < k → l[j]? = some a → l[j + 1]? = some b → a < b
theorem ascTo_next {l : List Int} {k : Nat} {p x : Int} (h : ascTo l k) (hp : l[k - 1]? = some p) (hx : l[k]? = some x) (hk : 0 < k) : ascTo l (k + 1) ↔ p < x := by
  constructor
  · intro h2
    have := h2 (k - 1) p x (by omega) hp (by rw [show k - 1 + 1 = k by omega]; exact hx)
    exact this
  · intro hlt j a b hj ha hb
    by_cases hjk : j + 1 < k
    · exact h j a b hjk ha hb
    · obtain rfl : j = k - 1 := by omega
      rw [show k - 1 + 1 = k by omega] at hb
      rw [hp] at ha; rw [hx] at hb
      cases ha; cases hb; exact hlt
theorem ascTo_all (l : List Int) : ascTo l l.length ↔ ascB l = true := by
  rw [Wd.asc_iff]
  constructor
  · intro h j a b ha hb
    exact h j a b (List.getElem?_eq_some_iff.1 hb).1 ha hb
  · intro h j a b _ ha hb
    exact h j a b ha hb
/-- No integer among the first k is out of range. -/
def inTo (l : List Int) (k : Nat) : Prop := ∀ (j : Nat) x, j < k → l[j]? = some x → 0 ≤ x ∧ x ≤ 1000000000
theorem inTo_all {l : List Int} (h : inTo l l.length) : l.any outB = false := by
  rw [List.any_eq_false]
  intro x hx
  obtain ⟨j, hj, e⟩ := List.getElem_of_mem hx
  have := h j x hj (List.getElem?_eq_some_iff.2 ⟨hj, e⟩)
  simp [outB]; omega
theorem out_any {l : List Int} {k : Nat} {x : Int} (hx : l[k]? = some x) (h : x < 0 ∨ 1000000000 < x) : l.any outB = true := List.any_eq_true.2 ⟨x, List.mem_of_getElem? hx, by simp [outB]; omega⟩
/-- What has been written, and what is to come. -/
def Part (l : List Int) (bs : List UInt8) (k : Nat) : Prop := restT l = (if bs = [] then [] else 44 :: bs) ++ restT (l.drop k)
theorem runT_ne (a b : Int) : Wd.runT a b ≠ [] := by
  unfold Wd.runT Lib.itoa
  split
  · simp
  · intro e
    have := (List.append_eq_nil_iff.1 e).1
    exact Wd.dec_ne _ this
theorem Part.step {l : List Int} {bs : List UInt8} {k j : Nat} {a : Int} (h : Part l bs k) (ha : l[k]? = some a) (hkj : k ≤ j) (_hj : j < l.length) (hrun : ∀ t, k ≤ t → t ≤ j → l[t]? = some (a + ((t - k : Nat) : Int))) (hend : l[j + 1]? ≠ some (a + ((j - k : Nat) : Int) + 1)) :
    Part l ((if bs = [] then [] else bs ++ [44]) ++ Wd.runT a (a + ((j - k : Nat) : Int))) (j + 1) := by
  obtain ⟨hk, e⟩ := List.getElem?_eq_some_iff.1 ha
  have hn : Wd.runN a (l.drop (k + 1)) = j - k := by
    refine Wd.runN_eq _ _ _ (fun t ht => ?_) ?_
    · rw [List.getElem?_drop, hrun (k + 1 + t) (by omega) (by omega), show k + 1 + t - k = t + 1 by omega]
      congr 1; omega
    · rw [List.getElem?_drop, show k + 1 + (j - k) = j + 1 by omega]
      intro e; apply hend; rw [e]; congr 1; omega
  have hr : restT (l.drop k) = 44 :: (Wd.runT a (a + ((j - k : Nat) : Int)) ++ restT (l.drop (j + 1))) := by
    rw [List.drop_eq_getElem_cons hk, e, Wd.restT_cons, hn, List.drop_drop, show k + 1 + (j - k) = j + 1 by omega]
  unfold Part at h ⊢
  rw [h, hr]
  by_cases hb : bs = []
  · subst hb
    simp only [if_true, List.nil_append]
    rw [if_neg (runT_ne _ _)]; rfl
  · rw [if_neg hb, if_neg hb, if_neg (by simp [hb])]
    simp
theorem Part.done {l : List Int} {bs : List UInt8} (h : Part l bs l.length) (hl : l ≠ []) : listT l = bs := by
  unfold Part at h
  rw [List.drop_length, Wd.restT_nil, List.append_nil] at h
  unfold listT
  rw [if_neg hl, h]
  by_cases hb : bs = []
  · subst hb
    simp only [if_true] at h
    match l, hl with
    | a :: r, _ => rw [Wd.restT_cons] at h; cases h
  · rw [if_neg hb]; rfl
end Go.Proofs.YtabopillicdjaaaGreatDoor

/- Chapter 1: what is written and read is inverse: the plain part of WordsInverse. -/
import Derived.Test.YtabopillicdjaaaGreatDoorWLLs
import Derived.Test.YtabopillicdjaaaGreatDoorQ3
import Derived.Lib.SmallJoins
import Derived.Deep.Fields
namespace Go.Proofs.YtabopillicdjaaaGreatDoor
open Go.RowKit
open Wd (splitS splitE joinS joinE joinT spl okF longF quoteL unquoteS unquoteE listE listS listT plE plS intV intE decimalB decVal)

theorem split_join {s : List UInt8} (h : splitE s = 0) : joinE (splitS s) = 0 ∧ joinS (splitS s) = s := by
  unfold Wd.splitE at h
  split at h
  · cases h
  · rename_i h1
    by_cases h2 : s = []
    · subst h2; exact ⟨rfl, rfl⟩
    · rw [if_neg h2] at h
      cases hs : spl s with
      | none => rw [hs] at h; cases h
      | some fs =>
        rw [hs] at h
        simp only at h
        split at h
        · cases h
        · rename_i h3
          have e : splitS s = fs := by
            unfold Wd.splitS
            rw [if_neg (not_or.2 ⟨h1, h2⟩), hs]
            simp only
            rw [if_neg h3]
          obtain ⟨j1, _, j3⟩ := Wd.spl_inv hs
          rw [not_or] at h3
          have hE : joinE fs = 0 := joinE_zero.2 ⟨⟨by omega, by simpa using h3.1⟩, j3, by rw [j1]; omega⟩
          rw [e]
          exact ⟨hE, by unfold Wd.joinS; rw [if_pos hE, j1]⟩
theorem join_split {fs : List (List UInt8 × Bool)} (h : joinE fs = 0) : splitE (joinS fs) = 0 ∧ splitS (joinS fs) = fs := by
  obtain ⟨⟨h1, h2⟩, h3, h4⟩ := joinE_zero.1 h
  have e : joinS fs = joinT fs := by unfold Wd.joinS; rw [if_pos h]
  rw [e]
  by_cases h0 : fs = []
  · subst h0; exact ⟨rfl, rfl⟩
  · have hs := Wd.spl_join fs h0 h3
    have hne : joinT fs ≠ [] := by
      intro e
      rw [e] at hs
      have : spl [] = none := by decide
      rw [this] at hs; cases hs
    have hn : ¬ (fs.any longF = true ∨ 64 < fs.length) := by rw [h2]; simp; omega
    constructor
    · unfold Wd.splitE
      rw [if_neg (by omega), if_neg hne, hs]
      simp only
      rw [if_neg hn]
    · unfold Wd.splitS
      rw [if_neg (not_or.2 ⟨by omega, hne⟩), hs]
      simp only
      rw [if_neg hn]
theorem quote_back (s : List UInt8) : unquoteE (quoteL s) = 0 ∧ unquoteS (quoteL s) = s := by
  have h := Wd.unq_quote s []
  rw [List.append_nil] at h
  obtain ⟨h1, h2⟩ := Wd.unqN_some h
  have hp : Wd.unqN (quoteL s) ≠ 0 ∧ Wd.unqN (quoteL s) = (quoteL s).length := ⟨by rw [h1, Wd.quote_len]; omega, h1⟩
  exact ⟨by unfold Wd.unquoteE; rw [if_pos hp], by unfold Wd.unquoteS; rw [if_pos hp, h2]⟩
theorem unquote_back {s : List UInt8} (h : unquoteE s = 0) : quoteL (unquoteS s) = s := by
  unfold Wd.unquoteE at h
  split at h
  · rename_i hp
    have e : unquoteS s = Wd.unqS s := by unfold Wd.unquoteS; rw [if_pos hp]
    rw [e]
    cases hu : Wd.unq s with
    | none => exact absurd (Wd.unqN_none hu).1 hp.1
    | some p =>
      obtain ⟨v, n⟩ := p
      obtain ⟨h1, h2⟩ := Wd.unqN_some hu
      obtain ⟨t, h3, h4⟩ := Wd.unq_inv hu
      have : t = [] := by
        have h5 := hp.2
        rw [h1, h4, h3, List.length_append] at h5
        exact List.length_eq_zero_iff.1 (by omega)
      rw [h2]
      rw [this, List.append_nil] at h3
      exact h3.symm
  · cases h
theorem int_back (n : Int) : intV (Lib.itoa n) n n = n ∧ intE (Lib.itoa n) n n = 0 := by
  obtain ⟨h1, h2⟩ := Wd.itoa_decimal n
  have := int_in (lo := n) (hi := n) h1 (by rw [h2]; omega)
  rwa [h2] at this
theorem back_int {s : List UInt8} {lo hi : Int} (h : intE s lo hi = 0) : Lib.itoa (intV s lo hi) = s := by
  unfold Wd.intE at h
  split at h
  · rename_i hd
    split at h
    · rename_i hr
      rw [(int_in hd hr).1]
      exact Wd.itoa_of hd
    · cases h
  · cases h
theorem itoa_ten {n : Int} (h0 : 0 ≤ n) (h1 : n ≤ 1000000000) : (Lib.itoa n).length ≤ 10 := by
  obtain ⟨N, rfl⟩ : ∃ N : Nat, n = N := ⟨n.toNat, by omega⟩
  have := Wd.itoa_natB N
  exact short_val this.1 (by rw [this.2]; omega)
theorem rest_len : ∀ (k : Nat) (l : List Int), l.length ≤ k → (∀ x ∈ l, 0 ≤ x ∧ x ≤ 1000000000) → (Wd.restT l).length ≤ 11 * l.length
  | 0, l, h, _ => by rw [List.length_eq_zero_iff.1 (by omega : l.length = 0)]; decide
  | k + 1, [], _, _ => by decide
  | k + 1, a :: r, h, hin => by
    simp only [List.length_cons] at h
    have hn := Wd.runN_le r a
    have ih := rest_len k (r.drop (Wd.runN a r)) (by rw [List.length_drop]; omega) (fun x hx => hin x (by simp [List.mem_of_mem_drop hx]))
    rw [List.length_drop] at ih
    have ha := hin a (by simp)
    have h1 := itoa_ten ha.1 ha.2
    rw [Wd.restT_cons, List.length_cons, List.length_append, List.length_cons]
    by_cases h0 : Wd.runN a r = 0
    · rw [h0] at ih ⊢
      have e : Wd.runT a (a + ((0 : Nat) : Int)) = Lib.itoa a := by unfold Wd.runT; rw [if_neg (by omega), List.append_nil]
      rw [e]
      omega
    · have hlast := Wd.runN_at r a (Wd.runN a r - 1) (by omega)
      have hb := hin _ (by simp [List.mem_of_getElem? hlast] : (a + 1 + ((Wd.runN a r - 1 : Nat) : Int)) ∈ a :: r)
      have e : a + 1 + ((Wd.runN a r - 1 : Nat) : Int) = a + (Wd.runN a r : Nat) := by omega
      rw [e] at hb
      have h2 := itoa_ten hb.1 hb.2
      have hT : (Wd.runT a (a + (Wd.runN a r : Nat))).length ≤ 21 := by
        unfold Wd.runT
        split
        · rw [List.length_append, List.length_cons]; omega
        · rw [List.append_nil]; omega
      omega
theorem list_len (l : List Int) : (listS l).length ≤ 6000 := by
  unfold Wd.listS
  split
  · rename_i h
    obtain ⟨h1, h2, _⟩ := Wd.listE_zero.1 h
    unfold Wd.listT
    split
    · simp
    · have := rest_len l.length l (Nat.le_refl _) (Wd.in_of h2)
      rw [List.length_tail]; omega
  · simp
theorem join_len (fs : List (List UInt8 × Bool)) : (joinS fs).length ≤ 8192 := by
  unfold Wd.joinS
  split
  · rename_i h
    have := (joinE_zero.1 h).2.2
    omega
  · simp
open Go.Joins Go.ChangeShapes Go.WideShapes Go.Deep in
set_option maxRecDepth 100000 in
theorem open_nums {H : Type} {enc : TypeId × Value → H} {w : World} {base : Nat} {spare : Nat → Bool} {held : Bool} {r : Reach} {b0 : Nat} {v : Value} {d : DataW H} {p : List MemPlace}
    (hv : Value.okWide Tryz.prog w r b0 25 v) (h : DataW.Trod enc Tryz.prog w base spare held 25 v d p) :
    ∃ (vL : Value) (l : List Int) (N : Int), v = .agg #[vL, .int .i64 N] ∧ IntsA w vL l ∧ l.length ≤ maxLen ∧ (Lit.int .i64 N).wf = true := by
  obtain ⟨v0, v1, y0, y1, n, rfl, _, _, t0, t1⟩ := open_agg2 Tryz.underlying25 (by kernel_rfl) (by kernel_rfl) hv h
  obtain ⟨N, e1, _, hN⟩ := DataW.trod_int Tryz.underlying2 t1
  simp only [List.cons.injEq, and_true] at e1
  subst e1
  rcases open_ints Tryz.underlying23 Tryz.underlying3 (by kernel_rfl) t0 with ⟨hcs, _⟩ | ⟨a, len, cap, zs, hcs, _, hl, hm, hz, _, hcell, hwz⟩
  · simp only [List.cons.injEq, and_true] at hcs
    subst hcs
    exact ⟨_, [], N, rfl, .inl ⟨rfl, _, _, rfl⟩, by simp, hN⟩
  · simp only [List.cons.injEq, and_true] at hcs
    subst hcs
    have hlm : len ≤ zs.length := by rw [hz]; split <;> omega
    refine ⟨_, zs.take len, N, rfl, ?_, by rw [List.length_take]; omega, hN⟩
    by_cases h0 : len = 0
    · subst h0
      exact .inl ⟨rfl, _, _, rfl⟩
    · have hc := hcell 0 (by omega)
      have ha : a = ⟨a.block, a.off, none⟩ := spot_none (by simpa [Addr.add] using hc)
      generalize hb : a.block = g at ha
      generalize ho : a.off = off at ha
      subst ha
      have htl : (zs.take len).length = len := by rw [List.length_take]; omega
      refine .inr ⟨fun e => h0 (by rw [← htl, e]; rfl), g, off, cap, by rw [htl], lt_of_cell (o := off) (by simpa [Addr.add] using hc), fun i x hi => ?_⟩
      have hil : i < len := by have := (List.getElem?_eq_some_iff.1 hi).1; omega
      have k := hcell i (by omega)
      have hxe : zs.getD i 0 = x := by
        rw [List.getElem?_take, if_pos hil] at hi
        simp [List.getD, hi]
      rw [hxe] at k
      rw [← k]
      by_cases hi0 : i = 0
      · subst hi0; simp [Addr.add]
      · simp [Addr.add, hi0]
end Go.Proofs.YtabopillicdjaaaGreatDoor

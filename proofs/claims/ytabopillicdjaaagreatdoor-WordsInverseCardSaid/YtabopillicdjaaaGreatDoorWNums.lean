/- Arguments opened: a struct of a slice of integers and an integer. -/
import Derived.Test.YtabopillicdjaaaGreatDoorWArg
namespace Go.Proofs.YtabopillicdjaaaGreatDoor
open Go.RowKit Go.ChangeShapes Go.WideShapes Go.Deep

section
variable {H : Type} {enc : TypeId × Value → H} {P : Program} {w : World} {base : Nat} {spare : Nat → Bool} {held : Bool}
/-- A struct of one-cell fields, by value: its cells, and each field's own reading. -/
theorem cells_open {r : Reach} {b0 : Nat} {t : TypeId} {fs : Array Field} {v : Value} {d : DataW H} {p : List MemPlace} (hs : P.underlying t = some (.struct fs)) (hone : Go.Deep.oneCellFields P fs = true) (hC : P.cellsOf t = fs.size)
    (hv : Value.okWide P w r b0 t v) (h : DataW.Trod enc P w base spare held t v d p) :
    ∃ (cs : Array Value) (n : Nat), v = .agg cs ∧ cs.size = fs.size ∧ ∀ (j : Nat) (f : Field), fs[j]? = some f → ∃ u y, cs[j]? = some u ∧ DataW.trod enc P w base spare held n f.type [u] = some y := by
  obtain ⟨cs, rfl, hsz⟩ := okWide_struct hs hv
  obtain ⟨fuel, hf⟩ := h
  obtain ⟨xs, n, _, _, _, hlen, hg⟩ := DataW.trod_struct hs hf
  refine ⟨cs, n, rfl, hsz.trans hC, fun j f hj => ?_⟩
  obtain ⟨ho, hk⟩ := Go.Deep.hone_of hone j f hj
  have hjl : j < fs.size := (Array.getElem?_eq_some_iff.1 hj).1
  have h1 := hg j f hj
  rw [ho, hk] at h1
  have hjc : j < cs.size := by omega
  have e1 : (cs.toList.drop j).take 1 = [cs[j]] := by
    rw [List.drop_eq_getElem_cons (by simpa using hjc)]
    simp
  have hx : xs[j]? = some (xs[j]'(by omega)) := List.getElem?_eq_getElem (by omega)
  rw [show (Value.agg cs).cells = cs from rfl, e1] at h1
  exact ⟨cs[j], xs[j]'(by omega), Array.getElem?_eq_getElem hjc, h1.trans hx⟩
end
theorem two_cells {cs : Array Value} {a b : Value} (hs : cs.size = 2) (h0 : cs[0]? = some a) (h1 : cs[1]? = some b) : cs = #[a, b] := by
  obtain ⟨l⟩ := cs
  match l, hs with
  | [v0, v1], _ => simp_all
set_option maxRecDepth 100000 in
theorem ints_cell {H : Type} {enc : TypeId × Value → H} {w : World} {base : Nat} {spare : Nat → Bool} {held : Bool} {fuel : Nat} {u : Value} {y : DataW H × List MemPlace}
    (hf : DataW.trod enc Tryz.prog w base spare held fuel 23 [u] = some y) : ∃ l : List Int, IntsA w u l ∧ l.length ≤ maxLen := by
  rcases open_ints Tryz.underlying23 Tryz.underlying3 (by kernel_rfl) hf with ⟨hcs, _⟩ | ⟨a, len, cap, zs, hcs, _, hl, hm, hz, _, hcell, hwz⟩
  · simp only [List.cons.injEq, and_true] at hcs
    subst hcs
    exact ⟨[], .inl ⟨rfl, _, _, rfl⟩, by simp⟩
  · simp only [List.cons.injEq, and_true] at hcs
    subst hcs
    have hlm : len ≤ zs.length := by rw [hz]; split <;> omega
    refine ⟨zs.take len, ?_, by rw [List.length_take]; omega⟩
    by_cases h0 : len = 0
    · subst h0
      exact .inl ⟨rfl, _, _, rfl⟩
    · have hc := hcell 0 (by omega)
      have ha : a = ⟨a.block, a.off, none⟩ := spot_none (by simpa [Addr.add] using hc)
      generalize hb : a.block = g at ha
      generalize ho : a.off = off at ha
      subst ha
      have htl : (zs.take len).length = len := by rw [List.length_take]; omega
      refine .inr ⟨fun e => h0 (by rw [← htl, e]; rfl), g, off, cap, by rw [htl], lt_of_cell (o := off) (by simpa [Addr.add] using hc), fun i x hi => ?_⟩
      have hil : i < len := by have := (List.getElem?_eq_some_iff.1 hi).1; omega
      have k := hcell i (by omega)
      have hxe : zs.getD i 0 = x := by
        rw [List.getElem?_take, if_pos hil] at hi
        simp [List.getD, hi]
      rw [hxe] at k
      rw [← k]
      by_cases hi0 : i = 0
      · subst hi0; simp [Addr.add]
      · simp [Addr.add, hi0]
set_option maxRecDepth 100000 in
theorem open_nums {H : Type} {enc : TypeId × Value → H} {w : World} {base : Nat} {spare : Nat → Bool} {held : Bool} {r : Reach} {b0 : Nat} {v : Value} {d : DataW H} {p : List MemPlace}
    (hv : Value.okWide Tryz.prog w r b0 25 v) (h : DataW.Trod enc Tryz.prog w base spare held 25 v d p) :
    ∃ (u : Value) (l : List Int) (N : Int), v = .agg #[u, .int .i64 N] ∧ IntsA w u l ∧ l.length ≤ maxLen ∧ (Lit.int .i64 N).wf = true := by
  obtain ⟨cs, n, rfl, hs, hf⟩ := cells_open Tryz.underlying25 (by kernel_rfl) (by kernel_rfl) hv h
  obtain ⟨u0, y0, g0, t0⟩ := hf 0 _ rfl
  obtain ⟨u1, y1, g1, t1⟩ := hf 1 _ rfl
  obtain ⟨N, e1, _, wN⟩ := DataW.trod_int Tryz.underlying2 t1
  simp only [List.cons.injEq, and_true] at e1
  subst e1
  obtain ⟨l, h1, h2⟩ := ints_cell t0
  exact ⟨u0, l, N, congrArg Value.agg (two_cells hs g0 g1), h1, h2, wN⟩
end Go.Proofs.YtabopillicdjaaaGreatDoor

/- Arguments opened: operations and answers as arguments; the one entry of the table of 64 bits. -/
import Derived.Test.YtaojogaakhidhaaDoorOpArg
import Derived.Test.YtaojogaakhidhaaDoorOpHex
import Derived.Test.YtaojogaakhidhaaDoorWLaid
import Derived.Lib.TrailingZeros
namespace Go.Proofs.YtaojogaakhidhaaDoor
open Go.RowKit Go.ChangeShapes Go.WideShapes Go.Deep
open Sc (OC OA WfC WfA)
section
variable {H : Type} {enc : TypeId × Value → H} {w : World} {base : Nat} {spare : Nat → Bool} {held : Bool}
set_option maxRecDepth 100000 in
set_option maxHeartbeats 1000000 in
theorem oa_of {fuel : Nat} {vs : List Value} {y : DataW H × List MemPlace} (hlen : vs.length = 3) (h : DataW.trod enc Tryd.prog w base spare held fuel 27 vs = some y) : ∃ a : OA, vs = (acells a).toList ∧ WfA a := by
  obtain ⟨xs, n, _, _, _, hxl, hf⟩ := DataW.trod_struct Tryd.underlying27 h
  match vs, hlen with
  | [v0, v1, v2], _ =>
    have t0 : DataW.trod enc Tryd.prog w base spare held n 25 [v0] = xs[0]? := hf 0 _ rfl
    have t1 : DataW.trod enc Tryd.prog w base spare held n 4 [v1] = xs[1]? := hf 1 _ rfl
    have t2 : DataW.trod enc Tryd.prog w base spare held n 22 [v2] = xs[2]? := hf 2 _ rfl
    have hx3 : xs.length = 3 := by rw [hxl]; rfl
    obtain ⟨c0, e0, _, _⟩ := DataW.trod_int Tryd.underlying25 (t0.trans (List.getElem?_eq_getElem (by omega)))
    obtain ⟨c1, e1, _⟩ := DataW.trod_bool Tryd.underlying4 (t1.trans (List.getElem?_eq_getElem (by omega)))
    obtain ⟨c2, e2, _, w2⟩ := DataW.trod_int Tryd.underlying22 (t2.trans (List.getElem?_eq_getElem (by omega)))
    simp only [List.cons.injEq, and_true] at e0 e1 e2
    subst e0 e1 e2
    exact ⟨⟨c0, c1, c2⟩, rfl, wf_u64 w2⟩
set_option maxRecDepth 100000 in
theorem open_oc {r : Reach} {b0 : Nat} {v : Value} {d : DataW H} {p : List MemPlace} (hv : Value.okWide Tryd.prog w r b0 24 v) (h : DataW.Trod enc Tryd.prog w base spare held 24 v d p) : ∃ c : OC, v = .agg (ocells c) ∧ WfC c := by
  obtain ⟨cs, rfl, hsz⟩ := okWide_struct Tryd.underlying24 hv
  obtain ⟨fuel, hf⟩ := h
  have h7 : Tryd.prog.cellsOf 24 = 7 := by kernel_rfl
  obtain ⟨c, e, hw⟩ := oc_of (by simpa [Value.cells] using hsz.trans h7) hf
  exact ⟨c, by rw [← Array.toList_inj.1 e]; rfl, hw⟩
set_option maxRecDepth 100000 in
theorem open_oa {r : Reach} {b0 : Nat} {v : Value} {d : DataW H} {p : List MemPlace} (hv : Value.okWide Tryd.prog w r b0 27 v) (h : DataW.Trod enc Tryd.prog w base spare held 27 v d p) : ∃ c : OA, v = .agg (acells c) ∧ WfA c := by
  obtain ⟨cs, rfl, hsz⟩ := okWide_struct Tryd.underlying27 hv
  obtain ⟨fuel, hf⟩ := h
  have h3 : Tryd.prog.cellsOf 27 = 3 := by kernel_rfl
  obtain ⟨c, e, hw⟩ := oa_of (by simpa [Value.cells] using hsz.trans h3) hf
  exact ⟨c, by rw [← Array.toList_inj.1 e]; rfl, hw⟩
end
set_option maxRecDepth 100000 in
theorem db_laid {W : World} (hL : laidMetH Tryd.prog laidAll W) : Db W := by
  rw [MakeChecks.laidMetH_plain _ _ _ (by kernel_rfl)] at hL
  exact (Lib.tabIs_of_head (k := .u8) (zs := Lib.deBruijn64tab.map Int.ofNat) (g := 6) (by kernel_rfl) (by kernel_rfl) (show Tryd.prog.underlying 134 = some (.array 64 5) by kernel_rfl) Tryd.underlying5 (by kernel_rfl) (by kernel_rfl) hL.tail).cell (by kernel_rfl) 15 (by decide)
end Go.Proofs.YtaojogaakhidhaaDoor

/- Arguments opened: operations, answers, slices of operations. -/
import Derived.Test.YtaojogaakhidhaaDoorOpPl4
import Derived.Test.YtaojogaakhidhaaDoorOpPl3
import Derived.Test.YtaojogaakhidhaaDoorOpBx
import Derived.ProofKit
import Derived.OpenShut
import Derived.Deep.Slices
import Derived.Deep.Fields
import Derived.Deep.SlicePairs
namespace Go.Proofs.YtaojogaakhidhaaDoor
open Go.RowKit Go.ChangeShapes Go.WideShapes Go.Deep
open Sc (OC OA WfC WfA)

/-- The cells of an operation, of an answer. -/
def ocells (c : OC) : Array Value := #[.int .i64 c.k, .int .i64 c.a, .int .i64 c.b, .int .i64 c.f, .int .i64 c.p, .int .i64 c.r, .int .u64 c.v]
def acells (a : OA) : Array Value := #[.int .i64 a.e, .bool a.is, .int .u64 a.v]
theorem wf_u64 {v : Int} (h : (Lit.int .u64 v).wf = true) : 0 ≤ v ∧ v < 18446744073709551616 := by
  simp [Lit.wf, IntKind.min, IntKind.max, IntKind.signed, IntKind.bits] at h
  omega
section
variable {H : Type} {enc : TypeId × Value → H} {w : World} {base : Nat} {spare : Nat → Bool} {held : Bool}
set_option maxRecDepth 100000 in
set_option maxHeartbeats 1000000 in
theorem oc_of {fuel : Nat} {vs : List Value} {y : DataW H × List MemPlace} (hlen : vs.length = 7) (h : DataW.trod enc Tryd.prog w base spare held fuel 24 vs = some y) : ∃ c : OC, vs = (ocells c).toList ∧ WfC c := by
  obtain ⟨xs, n, _, _, _, hxl, hf⟩ := DataW.trod_struct Tryd.underlying24 h
  match vs, hlen with
  | [v0, v1, v2, v3, v4, v5, v6], _ =>
    have t0 : DataW.trod enc Tryd.prog w base spare held n 3 [v0] = xs[0]? := hf 0 _ rfl
    have t1 : DataW.trod enc Tryd.prog w base spare held n 3 [v1] = xs[1]? := hf 1 _ rfl
    have t2 : DataW.trod enc Tryd.prog w base spare held n 3 [v2] = xs[2]? := hf 2 _ rfl
    have t3 : DataW.trod enc Tryd.prog w base spare held n 3 [v3] = xs[3]? := hf 3 _ rfl
    have t4 : DataW.trod enc Tryd.prog w base spare held n 3 [v4] = xs[4]? := hf 4 _ rfl
    have t5 : DataW.trod enc Tryd.prog w base spare held n 3 [v5] = xs[5]? := hf 5 _ rfl
    have t6 : DataW.trod enc Tryd.prog w base spare held n 22 [v6] = xs[6]? := hf 6 _ rfl
    have g : ∀ {T : TypeId} {k : IntKind} {u : Value} {z : Option (DataW H × List MemPlace)} {j : Nat}, Tryd.prog.underlying T = some (.int k) → DataW.trod enc Tryd.prog w base spare held n T [u] = xs[j]? → j < xs.length → ∃ x, u = .int k x ∧ (Lit.int k x).wf = true := by
      intro T k u z j hu ht hj
      obtain ⟨x, e, _, hw⟩ := DataW.trod_int hu (ht.trans (List.getElem?_eq_getElem hj))
      simp only [List.cons.injEq, and_true] at e
      exact ⟨x, e, hw⟩
    have hx7 : xs.length = 7 := by rw [hxl]; rfl
    obtain ⟨c0, rfl, _⟩ := g (z := none) Tryd.underlying3 t0 (by omega)
    obtain ⟨c1, rfl, _⟩ := g (z := none) Tryd.underlying3 t1 (by omega)
    obtain ⟨c2, rfl, _⟩ := g (z := none) Tryd.underlying3 t2 (by omega)
    obtain ⟨c3, rfl, _⟩ := g (z := none) Tryd.underlying3 t3 (by omega)
    obtain ⟨c4, rfl, _⟩ := g (z := none) Tryd.underlying3 t4 (by omega)
    obtain ⟨c5, rfl, _⟩ := g (z := none) Tryd.underlying3 t5 (by omega)
    obtain ⟨c6, rfl, w6⟩ := g (z := none) Tryd.underlying22 t6 (by omega)
    exact ⟨⟨c0, c1, c2, c3, c4, c5, c6⟩, rfl, wf_u64 w6⟩
end
end Go.Proofs.YtaojogaakhidhaaDoor

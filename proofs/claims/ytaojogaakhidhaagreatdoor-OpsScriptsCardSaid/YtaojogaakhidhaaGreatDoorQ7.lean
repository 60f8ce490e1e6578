/- The examples of chapter 28 in plain Lean. Chapter 1: the facts on the globals from the row's list and the shape of the first world; a law's row with both. Arguments opened: operations and answers as arguments; the one entry of the table of 64 bits. -/
import Derived.Test.YtaojogaakhidhaaGreatDoorOpParP
import Derived.Test.YtaojogaakhidhaaGreatDoorWByte
import Derived.Test.YtaojogaakhidhaaGreatDoorShelf
import Derived.Test.YtaojogaakhidhaaGreatDoorRows
import Derived.OpenShut
import Derived.LaidMore
import Derived.MakeChecks
import Derived.Stop.LaidErr
import Derived.HandedShaped
import Derived.ProofKit
import Derived.Test.YtaojogaakhidhaaGreatDoorQ2
import Derived.Test.YtaojogaakhidhaaGreatDoorQ4
import Derived.Lib.TrailingZeros
namespace Go.Proofs.YtaojogaakhidhaaGreatDoor
namespace Sc
theorem shA : parE [97, 108, 108, 111, 99, 32, 48, 32, 50, 32, 49] = 0 ∧ parC [97, 108, 108, 111, 99, 32, 48, 32, 50, 32, 49] = ⟨1, 0, 0, 0, 2, 1, 0⟩ := ⟨by decide +kernel, by kernel_rfl⟩
theorem shB : parE [119, 114, 105, 116, 101, 32, 49, 32, 48, 32, 102, 102] = 0 ∧ parC [119, 114, 105, 116, 101, 32, 49, 32, 48, 32, 102, 102] = ⟨5, 1, 0, 0, 0, 0, 255⟩ := ⟨by decide +kernel, by kernel_rfl⟩
theorem shC : parE [115, 116, 111, 114, 101, 32, 49, 32, 48, 32, 45, 49] = 0 ∧ parC [115, 116, 111, 114, 101, 32, 49, 32, 48, 32, 45, 49] = ⟨3, 1, -1, 0, 0, 0, 0⟩ := ⟨by decide +kernel, by kernel_rfl⟩
theorem shD : parE [119, 114, 105, 116, 101, 32, 49, 32, 48, 32, 48, 102] = 6 ∧ parC [119, 114, 105, 116, 101, 32, 49, 32, 48, 32, 48, 102] = ⟨0, 0, 0, 0, 0, 0, 0⟩ := ⟨by decide +kernel, by kernel_rfl⟩
theorem knA : parE [114, 101, 97, 100, 32, 49] = 6 ∧ parC [114, 101, 97, 100, 32, 49] = ⟨0, 0, 0, 0, 0, 0, 0⟩ := ⟨by decide +kernel, by kernel_rfl⟩
theorem knB : parE [114, 101, 97, 100, 32, 49, 32, 48, 32, 48] = 6 ∧ parC [114, 101, 97, 100, 32, 49, 32, 48, 32, 48] = ⟨0, 0, 0, 0, 0, 0, 0⟩ := ⟨by decide +kernel, by kernel_rfl⟩
theorem knC : parE [108, 111, 97, 100, 32, 49, 32, 48, 32, 49, 48, 48, 48, 48, 48, 48, 48, 48, 49] = 7 ∧ parC [108, 111, 97, 100, 32, 49, 32, 48, 32, 49, 48, 48, 48, 48, 48, 48, 48, 48, 49] = ⟨0, 0, 0, 0, 0, 0, 0⟩ := ⟨by decide +kernel, by kernel_rfl⟩
theorem knD : parE [119, 114, 105, 116, 101, 32, 49, 32, 48, 32, 49, 49, 49, 49, 49, 49, 49, 49, 49, 49, 49, 49, 49, 49, 49, 49, 49] = 7 ∧ parC [119, 114, 105, 116, 101, 32, 49, 32, 48, 32, 49, 49, 49, 49, 49, 49, 49, 49, 49, 49, 49, 49, 49, 49, 49, 49, 49] = ⟨0, 0, 0, 0, 0, 0, 0⟩ := ⟨by decide +kernel, by kernel_rfl⟩
theorem shE : chkA ⟨10, 0, 0, 0, 0, 0, 0⟩ ⟨0, false, 513⟩ = 0 ∧ ansS ⟨10, 0, 0, 0, 0, 0, 0⟩ ⟨0, false, 513⟩ = [50, 32, 49] := ⟨by decide +kernel, by decide +kernel⟩
theorem knE : chkA ⟨8, 0, 1, 0, 0, 0, 0⟩ ⟨0, true, 0⟩ = 0 ∧ ansS ⟨8, 0, 1, 0, 0, 0, 0⟩ ⟨0, true, 0⟩ = [121, 101, 115] := ⟨by decide +kernel, by decide +kernel⟩
theorem knF : chkA ⟨1, 0, 0, 0, 1, 1, 0⟩ ⟨5, false, 0⟩ = 0 ∧ ansS ⟨1, 0, 0, 0, 1, 1, 0⟩ ⟨5, false, 0⟩ = [101, 114, 114, 111, 114, 32, 53] := ⟨by decide +kernel, by decide +kernel⟩
theorem shF : paE ⟨4, 0, 0, 0, 0, 0, 0⟩ [102, 102] = 0 ∧ paA ⟨4, 0, 0, 0, 0, 0, 0⟩ [102, 102] = ⟨0, false, 255⟩ := ⟨by decide +kernel, by kernel_rfl⟩
theorem shG : paE ⟨1, 0, 0, 0, 2, 1, 0⟩ [121, 101, 115] = 6 ∧ paA ⟨1, 0, 0, 0, 2, 1, 0⟩ [121, 101, 115] = ⟨0, false, 0⟩ := ⟨by decide +kernel, by kernel_rfl⟩
end Sc
end Go.Proofs.YtaojogaakhidhaaGreatDoor
namespace Go.Proofs.YtaojogaakhidhaaGreatDoor
open Go.RowKit Go.ChangeShapes

theorem pair_cells {H : Type} {enc : TypeId × Value → H} {P : Program} {w : World} {base : Nat} {sp : Nat → Bool} {held : Bool} {fuel : Nat} {t u : TypeId} {f0 f1 : Field} {a b : Value} {x : DataW H × List MemPlace} {p q : Int}
    (ht : P.underlying t = some (.struct #[f0, f1])) (h0 : f0.type = u) (h1 : f1.type = u) (o0 : f0.offset = 0) (o1 : f1.offset = 1) (hu : P.underlying u = some (.int .u8)) (hc : P.cellsOf u = 1)
    (h : DataW.trod enc P w base sp held fuel t [a, b] = some x) (hx : x.1 = .agg [.lit (.int .u8 p), .lit (.int .u8 q)]) : a = .int .u8 p ∧ b = .int .u8 q := by
  obtain ⟨xs, n, _, ex, _, hlen, hg⟩ := DataW.trod_struct ht h
  match xs, hlen with
  | [y0, y1], _ =>
    have g0 := hg 0 f0 rfl
    have g1 := hg 1 f1 rfl
    rw [h0, o0, hc] at g0
    rw [h1, o1, hc] at g1
    obtain ⟨z0, e0, k0, _⟩ := DataW.trod_int hu (show DataW.trod enc P w base sp held n u [a] = some y0 from g0)
    obtain ⟨z1, e1, k1, _⟩ := DataW.trod_int hu (show DataW.trod enc P w base sp held n u [b] = some y1 from g1)
    subst k0 k1 ex
    simp only [List.map_cons, List.map_nil, DataW.agg.injEq, List.cons.injEq, DataW.lit.injEq, Lit.int.injEq, true_and, and_true] at hx
    simp only [List.cons.injEq, and_true] at e0 e1
    rw [e0, e1, hx.1, hx.2]
    exact ⟨rfl, rfl⟩

set_option maxRecDepth 100000 in
set_option maxHeartbeats 1000000 in
theorem esc_laid {W : World} {r : List (String × DataW Unit)} (h : laidMet Tryz.prog (("shunter/words.escapes", Rows.laid_shunter_words_escapes) :: r) W) : W.var? Tryz.prog "shunter/words.escapes" = some escCells := by
  obtain ⟨ps, ⟨g, t, cs, fuel, p, q, hg, ht, hv, hd, _, _⟩, _⟩ := h
  obtain rfl := Option.some.inj ((show Tryz.prog.globalNamed "shunter/words.escapes" = some 1 by kernel_rfl).symm.trans hg)
  obtain rfl := Option.some.inj ((show (Tryz.prog.globals[1]?).map (·.type) = some 150 by kernel_rfl).symm.trans ht)
  have c2 : Tryz.prog.cellsOf 149 = 2 := by kernel_rfl
  have c10 : Tryz.prog.cellsOf 150 = 10 := by kernel_rfl
  have c1 : Tryz.prog.cellsOf 5 = 1 := by kernel_rfl
  obtain ⟨xs, m, _, ex, hlen, hl, hel⟩ := DataW.trod_array (show Tryz.prog.underlying 150 = some (.array 5 149) by kernel_rfl) hd
  rw [c10] at hlen
  obtain ⟨l⟩ := cs
  match l, hlen with
  | [a0, b0, a1, b1, a2, b2, a3, b3, a4, b4], _ =>
    match xs, hl with
    | [x0, x1, x2, x3, x4], _ =>
      rw [c2] at hel
      have e := congrArg (·.1) ex
      simp only [Rows.laid_shunter_words_escapes, List.map_cons, List.map_nil, DataW.agg.injEq, List.cons.injEq, and_true] at e
      obtain ⟨e0, e1, e2, e3, e4⟩ := e
      obtain ⟨f0, f1, hu, h0, h1, o0, o1⟩ : ∃ f0 f1 : Field, Tryz.prog.underlying 149 = some (.struct #[f0, f1]) ∧ f0.type = 5 ∧ f1.type = 5 ∧ f0.offset = 0 ∧ f1.offset = 1 :=
        ⟨{ name := "c", type := 5, offset := 0, embedded := false, tag := "", pkgPath := "shunter/words", byteOffset := 0 }, { name := "letter", type := 5, offset := 1, embedded := false, tag := "", pkgPath := "shunter/words", byteOffset := 1 }, rfl, rfl, rfl, rfl, rfl⟩
      obtain ⟨rfl, rfl⟩ := pair_cells hu h0 h1 o0 o1 Tryz.underlying5 c1 (hel 0 (by omega)) e0.symm
      obtain ⟨rfl, rfl⟩ := pair_cells hu h0 h1 o0 o1 Tryz.underlying5 c1 (hel 1 (by omega)) e1.symm
      obtain ⟨rfl, rfl⟩ := pair_cells hu h0 h1 o0 o1 Tryz.underlying5 c1 (hel 2 (by omega)) e2.symm
      obtain ⟨rfl, rfl⟩ := pair_cells hu h0 h1 o0 o1 Tryz.underlying5 c1 (hel 3 (by omega)) e3.symm
      obtain ⟨rfl, rfl⟩ := pair_cells hu h0 h1 o0 o1 Tryz.underlying5 c1 (hel 4 (by omega)) e4.symm
      exact hv

theorem row_err (u : TypeId) (h : Tryz.prog.typeName? 3 u = some "*errors.errorString") : u = 161 :=
  typeName_ptr_named (nm := "errors.errorString") (by rw [show "*" ++ "errors.errorString" = "*errors.errorString" by decide]; kernel_rfl) (by kernel_rfl) (by decide) u (by rw [show "*" ++ "errors.errorString" = "*errors.errorString" by decide]; exact h)

def laidAll : List (String × DataW Unit) := [("math/bits.deBruijn32tab", Rows.laid_math_bits_deBruijn32tab), ("math/bits.deBruijn64tab", Rows.laid_math_bits_deBruijn64tab), ("internal/strconv.uint64pow10", Rows.laid_internal_strconv_uint64pow10), ("unicode/utf8.acceptRanges", Rows.laid_unicode_utf8_acceptRanges), ("strconv.ErrRange", Rows.laid_strconv_ErrRange), ("strconv.ErrSyntax", Rows.laid_strconv_ErrSyntax), ("shunter/words.escapes", Rows.laid_shunter_words_escapes), ("unicode/utf8.first", Rows.laid_unicode_utf8_first)]
theorem gl_laid {W : World} (hL : laidMetH Tryz.prog laidAll W) (hsh : W.ShapedOpen Tryz.prog) : Gl W := by
  rw [MakeChecks.laidMetH_plain _ _ _ (by kernel_rfl)] at hL
  have h3 := hL.tail.tail
  have h5 := h3.tail.tail
  have h7 := h5.tail.tail
  refine ⟨?_, esc_laid h7, ?_, ?_⟩
  · exact Lib.tabIs_of_head (k := .u64) (zs := Lib.pow10Tab) (g := 0) (by kernel_rfl) (by kernel_rfl) (show Tryz.prog.underlying 136 = some (.array 20 23) by kernel_rfl) Tryz.underlying23 (by kernel_rfl) (by kernel_rfl) h3
  · obtain ⟨a, s, h, _⟩ := laid_sentinel h5 (show Tryz.prog.globalNamed "strconv.ErrRange" = some 3 by kernel_rfl) (show (Tryz.prog.globals[3]?).map (·.type) = some 68 by kernel_rfl) Tryz.underlying68 row_err Tryz.underlying161 Tryz.underlying163 rfl rfl Tryz.underlying9 (by kernel_rfl) (by kernel_rfl)
    exact ⟨_, _, h⟩
  · exact Go.Proofs.cell_of_shapedOpen_int (zero := #[.int .i64 0]) (t := 3) hsh (of_decide_eq_true (by kernel_rfl)) (by kernel_rfl) rfl (by kernel_rfl) (by kernel_rfl) Tryz.underlying3
end Go.Proofs.YtaojogaakhidhaaGreatDoor
namespace Go
open Go.RowKit
/-- The library's two forms of this law in one: the list's condition and the first world's shape are both handed to the contract. -/
theorem returnsInHanded_of_change_both {H : Type} {enc : TypeId × Value → H} {a : Assume} {C : Checked} {os : Os} {f : FuncId} {fn : Func} {s : ChangeSpec} {conds : List PathCond} {apart fresh handsOn again : Bool} {X : World → Array Value → Prop}
    (hX : ∀ (w w' : World) (args : Array Value), w.heap = w'.heap → X w args → X w' args)
    (own : ownKnob C.prog.godebug = none) (started : os.Started) (noInit : C.prog.inits.idxOf? f = none) (hfn : C.prog.funcs[f]? = some fn)
    (witness : ∃ (w : World) (tape : Tape) (i : Input), w.os = os ∧ (w.forCall tape i).Shaped C.prog ∧ i.vars = [] ∧ Input.okWide C.prog (w.forCall tape i) .any w.heap.size f i ∧
      ((s.pre enc C.prog fn conds apart (w.forCall tape i).memory i.args ∧ X (w.forCall tape i).memory i.args) ∧ sizedMet enc C.prog fn (OpenSpec.ofChange s) apart (w.forCall tape i).memory i.args) ∧ a.holds C.prog (lone (Frame.enter C.prog f i.args .normal) [] (w.forCall tape i)))
    (contract : ∀ (W : World) (base : Nat) (args : Array Value) (ds gs : List (DataW H)) (before : List MemPlace),
      (∀ (j : Nat) t v, fn.params[j]? = some t → args[j]? = some v → Value.okWide C.prog W .any base t v) →
      DataW.Whole enc C.prog fn.params.toList s.vars apart W args.toList ds gs before →
      W.ShapedOpen C.prog → X W args →
      Calls C.prog f args W fun e W' => ∃ v, e = .returned v ∧ s.post enc C.prog fn apart fresh handsOn again W args v W') :
    ReturnsInHanded a C os f .any (fun w args => (s.pre enc C.prog fn conds apart w args ∧ X w args) ∧ sizedMet enc C.prog fn (OpenSpec.ofChange s) apart w args) (s.post enc C.prog fn apart fresh handsOn again) := by
  refine returnsInHanded_of_calls own started noInit witness ?_
  intro w tape i _ hsh _ hok hpre _
  obtain ⟨_, _, _, fn', hfn', _, _, _, _, hval⟩ := hok
  have e : fn' = fn := Option.some.inj (hfn'.symm.trans hfn)
  subst e
  obtain ⟨⟨⟨ds, gs, before, hw, _⟩, hx⟩, _⟩ := hpre
  have hw' := DataW.Whole.of_heap (w' := w.forCall tape i) (by rfl) hw
  refine (contract (w.forCall tape i) w.heap.size i.args ds gs before hval hw' hsh (hX _ _ _ (by rfl) hx)).mono fun e W' ⟨v, he, hp⟩ => ?_
  subst he
  exact ChangeSpec.post_blind hp
end Go
namespace Go.Proofs.YtaojogaakhidhaaGreatDoor
open Go.RowKit Go.ChangeShapes Go.WideShapes Go.Deep
open Sc (OC OA WfC WfA)
section
variable {H : Type} {enc : TypeId × Value → H} {w : World} {base : Nat} {spare : Nat → Bool} {held : Bool}
set_option maxRecDepth 100000 in
set_option maxHeartbeats 1000000 in
theorem oa_of {fuel : Nat} {vs : List Value} {y : DataW H × List MemPlace} (hlen : vs.length = 3) (h : DataW.trod enc Tryz.prog w base spare held fuel 41 vs = some y) : ∃ a : OA, vs = (acells a).toList ∧ WfA a := by
  obtain ⟨xs, n, _, _, _, hxl, hf⟩ := DataW.trod_struct Tryz.underlying41 h
  match vs, hlen with
  | [v0, v1, v2], _ =>
    have t0 : DataW.trod enc Tryz.prog w base spare held n 26 [v0] = xs[0]? := hf 0 _ rfl
    have t1 : DataW.trod enc Tryz.prog w base spare held n 4 [v1] = xs[1]? := hf 1 _ rfl
    have t2 : DataW.trod enc Tryz.prog w base spare held n 23 [v2] = xs[2]? := hf 2 _ rfl
    have hx3 : xs.length = 3 := by rw [hxl]; rfl
    obtain ⟨c0, e0, _, _⟩ := DataW.trod_int Tryz.underlying26 (t0.trans (List.getElem?_eq_getElem (by omega)))
    obtain ⟨c1, e1, _⟩ := DataW.trod_bool Tryz.underlying4 (t1.trans (List.getElem?_eq_getElem (by omega)))
    obtain ⟨c2, e2, _, w2⟩ := DataW.trod_int Tryz.underlying23 (t2.trans (List.getElem?_eq_getElem (by omega)))
    simp only [List.cons.injEq, and_true] at e0 e1 e2
    subst e0 e1 e2
    exact ⟨⟨c0, c1, c2⟩, rfl, wf_u64 w2⟩
set_option maxRecDepth 100000 in
theorem open_oc {r : Reach} {b0 : Nat} {v : Value} {d : DataW H} {p : List MemPlace} (hv : Value.okWide Tryz.prog w r b0 25 v) (h : DataW.Trod enc Tryz.prog w base spare held 25 v d p) : ∃ c : OC, v = .agg (ocells c) ∧ WfC c := by
  obtain ⟨cs, rfl, hsz⟩ := okWide_struct Tryz.underlying25 hv
  obtain ⟨fuel, hf⟩ := h
  have h7 : Tryz.prog.cellsOf 25 = 7 := by kernel_rfl
  obtain ⟨c, e, hw⟩ := oc_of (by simpa [Value.cells] using hsz.trans h7) hf
  exact ⟨c, by rw [← Array.toList_inj.1 e]; rfl, hw⟩
set_option maxRecDepth 100000 in
theorem open_oa {r : Reach} {b0 : Nat} {v : Value} {d : DataW H} {p : List MemPlace} (hv : Value.okWide Tryz.prog w r b0 41 v) (h : DataW.Trod enc Tryz.prog w base spare held 41 v d p) : ∃ c : OA, v = .agg (acells c) ∧ WfA c := by
  obtain ⟨cs, rfl, hsz⟩ := okWide_struct Tryz.underlying41 hv
  obtain ⟨fuel, hf⟩ := h
  have h3 : Tryz.prog.cellsOf 41 = 3 := by kernel_rfl
  obtain ⟨c, e, hw⟩ := oa_of (by simpa [Value.cells] using hsz.trans h3) hf
  exact ⟨c, by rw [← Array.toList_inj.1 e]; rfl, hw⟩
end
set_option maxRecDepth 100000 in
theorem db_laid {W : World} (hL : laidMetH Tryz.prog laidAll W) : Db W := by
  rw [MakeChecks.laidMetH_plain _ _ _ (by kernel_rfl)] at hL
  exact (Lib.tabIs_of_head (k := .u8) (zs := Lib.deBruijn64tab.map Int.ofNat) (g := 6) (by kernel_rfl) (by kernel_rfl) (show Tryz.prog.underlying 160 = some (.array 64 5) by kernel_rfl) Tryz.underlying5 (by kernel_rfl) (by kernel_rfl) hL.tail).cell (by kernel_rfl) 15 (by decide)
end Go.Proofs.YtaojogaakhidhaaGreatDoor

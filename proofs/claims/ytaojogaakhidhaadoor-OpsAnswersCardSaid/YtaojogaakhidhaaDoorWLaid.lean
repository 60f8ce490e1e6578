/- Chapter 1: the facts on the globals from the row's list and the shape of the first world; a law's row with both. -/
import Derived.Test.YtaojogaakhidhaaDoorWByte
import Derived.Test.YtaojogaakhidhaaDoorShelf
import Derived.Test.YtaojogaakhidhaaDoorRows
import Derived.OpenShut
import Derived.LaidMore
import Derived.MakeChecks
import Derived.Stop.LaidErr
import Derived.HandedShaped
import Derived.ProofKit
namespace Go.Proofs.YtaojogaakhidhaaDoor
open Go.RowKit Go.ChangeShapes

theorem pair_cells {H : Type} {enc : TypeId × Value → H} {P : Program} {w : World} {base : Nat} {sp : Nat → Bool} {held : Bool} {fuel : Nat} {t u : TypeId} {f0 f1 : Field} {a b : Value} {x : DataW H × List MemPlace} {p q : Int}
    (ht : P.underlying t = some (.struct #[f0, f1])) (h0 : f0.type = u) (h1 : f1.type = u) (o0 : f0.offset = 0) (o1 : f1.offset = 1) (hu : P.underlying u = some (.int .u8)) (hc : P.cellsOf u = 1)
    (h : DataW.trod enc P w base sp held fuel t [a, b] = some x) (hx : x.1 = .agg [.lit (.int .u8 p), .lit (.int .u8 q)]) : a = .int .u8 p ∧ b = .int .u8 q := by
  obtain ⟨xs, n, _, ex, _, hlen, hg⟩ := DataW.trod_struct ht h
  match xs, hlen with
  | [y0, y1], _ =>
    have g0 := hg 0 f0 rfl
    have g1 := hg 1 f1 rfl
    rw [h0, o0, hc] at g0
    rw [h1, o1, hc] at g1
    obtain ⟨z0, e0, k0, _⟩ := DataW.trod_int hu (show DataW.trod enc P w base sp held n u [a] = some y0 from g0)
    obtain ⟨z1, e1, k1, _⟩ := DataW.trod_int hu (show DataW.trod enc P w base sp held n u [b] = some y1 from g1)
    subst k0 k1 ex
    simp only [List.map_cons, List.map_nil, DataW.agg.injEq, List.cons.injEq, DataW.lit.injEq, Lit.int.injEq, true_and, and_true] at hx
    simp only [List.cons.injEq, and_true] at e0 e1
    rw [e0, e1, hx.1, hx.2]
    exact ⟨rfl, rfl⟩

set_option maxRecDepth 100000 in
set_option maxHeartbeats 1000000 in
theorem esc_laid {W : World} {r : List (String × DataW Unit)} (h : laidMet Tryd.prog (("shunter/words.escapes", Rows.laid_shunter_words_escapes) :: r) W) : W.var? Tryd.prog "shunter/words.escapes" = some escCells := by
  obtain ⟨ps, ⟨g, t, cs, fuel, p, q, hg, ht, hv, hd, _, _⟩, _⟩ := h
  obtain rfl := Option.some.inj ((show Tryd.prog.globalNamed "shunter/words.escapes" = some 4 by kernel_rfl).symm.trans hg)
  obtain rfl := Option.some.inj ((show (Tryd.prog.globals[4]?).map (·.type) = some 132 by kernel_rfl).symm.trans ht)
  have c2 : Tryd.prog.cellsOf 131 = 2 := by kernel_rfl
  have c10 : Tryd.prog.cellsOf 132 = 10 := by kernel_rfl
  have c1 : Tryd.prog.cellsOf 5 = 1 := by kernel_rfl
  obtain ⟨xs, m, _, ex, hlen, hl, hel⟩ := DataW.trod_array (show Tryd.prog.underlying 132 = some (.array 5 131) by kernel_rfl) hd
  rw [c10] at hlen
  obtain ⟨l⟩ := cs
  match l, hlen with
  | [a0, b0, a1, b1, a2, b2, a3, b3, a4, b4], _ =>
    match xs, hl with
    | [x0, x1, x2, x3, x4], _ =>
      rw [c2] at hel
      have e := congrArg (·.1) ex
      simp only [Rows.laid_shunter_words_escapes, List.map_cons, List.map_nil, DataW.agg.injEq, List.cons.injEq, and_true] at e
      obtain ⟨e0, e1, e2, e3, e4⟩ := e
      obtain ⟨f0, f1, hu, h0, h1, o0, o1⟩ : ∃ f0 f1 : Field, Tryd.prog.underlying 131 = some (.struct #[f0, f1]) ∧ f0.type = 5 ∧ f1.type = 5 ∧ f0.offset = 0 ∧ f1.offset = 1 :=
        ⟨{ name := "c", type := 5, offset := 0, embedded := false, tag := "", pkgPath := "shunter/words", byteOffset := 0 }, { name := "letter", type := 5, offset := 1, embedded := false, tag := "", pkgPath := "shunter/words", byteOffset := 1 }, rfl, rfl, rfl, rfl, rfl⟩
      obtain ⟨rfl, rfl⟩ := pair_cells hu h0 h1 o0 o1 Tryd.underlying5 c1 (hel 0 (by omega)) e0.symm
      obtain ⟨rfl, rfl⟩ := pair_cells hu h0 h1 o0 o1 Tryd.underlying5 c1 (hel 1 (by omega)) e1.symm
      obtain ⟨rfl, rfl⟩ := pair_cells hu h0 h1 o0 o1 Tryd.underlying5 c1 (hel 2 (by omega)) e2.symm
      obtain ⟨rfl, rfl⟩ := pair_cells hu h0 h1 o0 o1 Tryd.underlying5 c1 (hel 3 (by omega)) e3.symm
      obtain ⟨rfl, rfl⟩ := pair_cells hu h0 h1 o0 o1 Tryd.underlying5 c1 (hel 4 (by omega)) e4.symm
      exact hv

theorem row_err (u : TypeId) (h : Tryd.prog.typeName? 3 u = some "*errors.errorString") : u = 136 :=
  typeName_ptr_named (nm := "errors.errorString") (by rw [show "*" ++ "errors.errorString" = "*errors.errorString" by decide]; kernel_rfl) (by kernel_rfl) (by decide) u (by rw [show "*" ++ "errors.errorString" = "*errors.errorString" by decide]; exact h)

def laidAll : List (String × DataW Unit) := [("math/bits.deBruijn32tab", Rows.laid_math_bits_deBruijn32tab), ("math/bits.deBruijn64tab", Rows.laid_math_bits_deBruijn64tab), ("internal/strconv.uint64pow10", Rows.laid_internal_strconv_uint64pow10), ("unicode/utf8.acceptRanges", Rows.laid_unicode_utf8_acceptRanges), ("strconv.ErrRange", Rows.laid_strconv_ErrRange), ("strconv.ErrSyntax", Rows.laid_strconv_ErrSyntax), ("shunter/words.escapes", Rows.laid_shunter_words_escapes), ("unicode/utf8.first", Rows.laid_unicode_utf8_first)]
theorem gl_laid {W : World} (hL : laidMetH Tryd.prog laidAll W) (hsh : W.ShapedOpen Tryd.prog) : Gl W := by
  rw [MakeChecks.laidMetH_plain _ _ _ (by kernel_rfl)] at hL
  have h3 := hL.tail.tail
  have h5 := h3.tail.tail
  have h7 := h5.tail.tail
  refine ⟨?_, esc_laid h7, ?_, ?_⟩
  · exact Lib.tabIs_of_head (k := .u64) (zs := Lib.pow10Tab) (g := 0) (by kernel_rfl) (by kernel_rfl) (show Tryd.prog.underlying 106 = some (.array 20 22) by kernel_rfl) Tryd.underlying22 (by kernel_rfl) (by kernel_rfl) h3
  · obtain ⟨a, s, h, _⟩ := laid_sentinel h5 (show Tryd.prog.globalNamed "strconv.ErrRange" = some 2 by kernel_rfl) (show (Tryd.prog.globals[2]?).map (·.type) = some 69 by kernel_rfl) Tryd.underlying69 row_err Tryd.underlying136 Tryd.underlying138 rfl rfl Tryd.underlying9 (by kernel_rfl) (by kernel_rfl)
    exact ⟨_, _, h⟩
  · exact Go.Proofs.cell_of_shapedOpen_int (zero := #[.int .i64 0]) (t := 3) hsh (of_decide_eq_true (by kernel_rfl)) (by kernel_rfl) rfl (by kernel_rfl) (by kernel_rfl) Tryd.underlying3
end Go.Proofs.YtaojogaakhidhaaDoor
namespace Go
open Go.RowKit
/-- The library's two forms of this law in one: the list's condition and the first world's shape are both handed to the contract. -/
theorem returnsInHanded_of_change_both {H : Type} {enc : TypeId × Value → H} {a : Assume} {C : Checked} {os : Os} {f : FuncId} {fn : Func} {s : ChangeSpec} {conds : List PathCond} {apart fresh handsOn again : Bool} {X : World → Array Value → Prop}
    (hX : ∀ (w w' : World) (args : Array Value), w.heap = w'.heap → X w args → X w' args)
    (own : ownKnob C.prog.godebug = none) (started : os.Started) (noInit : C.prog.inits.idxOf? f = none) (hfn : C.prog.funcs[f]? = some fn)
    (witness : ∃ (w : World) (tape : Tape) (i : Input), w.os = os ∧ (w.forCall tape i).Shaped C.prog ∧ i.vars = [] ∧ Input.okWide C.prog (w.forCall tape i) .any w.heap.size f i ∧
      ((s.pre enc C.prog fn conds apart (w.forCall tape i).memory i.args ∧ X (w.forCall tape i).memory i.args) ∧ sizedMet enc C.prog fn (OpenSpec.ofChange s) apart (w.forCall tape i).memory i.args) ∧ a.holds C.prog (lone (Frame.enter C.prog f i.args .normal) [] (w.forCall tape i)))
    (contract : ∀ (W : World) (base : Nat) (args : Array Value) (ds gs : List (DataW H)) (before : List MemPlace),
      (∀ (j : Nat) t v, fn.params[j]? = some t → args[j]? = some v → Value.okWide C.prog W .any base t v) →
      DataW.Whole enc C.prog fn.params.toList s.vars apart W args.toList ds gs before →
      W.ShapedOpen C.prog → X W args →
      Calls C.prog f args W fun e W' => ∃ v, e = .returned v ∧ s.post enc C.prog fn apart fresh handsOn again W args v W') :
    ReturnsInHanded a C os f .any (fun w args => (s.pre enc C.prog fn conds apart w args ∧ X w args) ∧ sizedMet enc C.prog fn (OpenSpec.ofChange s) apart w args) (s.post enc C.prog fn apart fresh handsOn again) := by
  refine returnsInHanded_of_calls own started noInit witness ?_
  intro w tape i _ hsh _ hok hpre _
  obtain ⟨_, _, _, fn', hfn', _, _, _, _, hval⟩ := hok
  have e : fn' = fn := Option.some.inj (hfn'.symm.trans hfn)
  subst e
  obtain ⟨⟨⟨ds, gs, before, hw, _⟩, hx⟩, _⟩ := hpre
  have hw' := DataW.Whole.of_heap (w' := w.forCall tape i) (by rfl) hw
  refine (contract (w.forCall tape i) w.heap.size i.args ds gs before hval hw' hsh (hX _ _ _ (by rfl) hx)).mono fun e W' ⟨v, he, hp⟩ => ?_
  subst he
  exact ChangeSpec.post_blind hp
end Go

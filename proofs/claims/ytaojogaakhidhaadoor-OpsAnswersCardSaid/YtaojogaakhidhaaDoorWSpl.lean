/- Package words: the walk of Split. -/
import Derived.Test.YtaojogaakhidhaaDoorWIter
import Derived.RangeFuncBox
namespace Go.Proofs.YtaojogaakhidhaaDoor
open Go.RowKit
open Wd (bareB fieldAt word unq unqS unqN spl splF splitS splitE longF)
attribute [local go_sem] Oper.semAt_some

theorem it_spl : ∀ (f : Nat) (l : List UInt8), l.length < f → splF f l = if (itF f l).all (·.2) = true then some ((itF f l).map (·.1)) else none
  | 0, _, h => absurd h (Nat.not_lt_zero _)
  | f + 1, l, h => by
    unfold splF itF
    cases hd : fieldAt l with
    | none => simp
    | some p =>
      obtain ⟨x, n⟩ := p
      have := Wd.field_pos hd
      simp only
      by_cases he : l.drop n = []
      · rw [if_pos he, if_pos he]; simp
      · have hl : 0 < (l.drop n).length := List.length_pos_iff.2 he
        rw [List.length_drop] at hl
        rw [if_neg he, if_neg he]
        by_cases hh : (l.drop n).head? = some 32
        · rw [if_pos hh, if_pos hh, it_spl f (l.drop (n + 1)) (by simp; omega)]
          simp only [List.all_cons, Bool.true_and, List.map_cons]
          by_cases hq : (itF f (l.drop (n + 1))).all (·.2) = true
          · rw [if_pos hq, if_pos hq]; rfl
          · rw [if_neg hq, if_neg hq]; rfl
        · rw [if_neg hh, if_neg hh]; simp
theorem spl_it (l : List UInt8) : spl l = if (itL l).all (·.2) = true then some ((itL l).map (·.1)) else none := it_spl _ _ (by omega)
def cellsF (fs : List (List UInt8 × Bool)) : List Value := fs.flatMap fun x => [.string ⟨x.1.toArray⟩, .bool x.2]
theorem cellsF_len (fs : List (List UInt8 × Bool)) : (cellsF fs).length = fs.length * 2 := by
  induction fs with
  | nil => rfl
  | cons x fs ih => simp only [cellsF, List.flatMap_cons, List.length_append, List.length_cons, List.length_nil] at ih ⊢; omega
theorem cellsF_snoc (fs : List (List UInt8 × Bool)) (x : List UInt8 × Bool) : cellsF (fs ++ [x]) = cellsF fs ++ [.string ⟨x.1.toArray⟩, .bool x.2] := by simp [cellsF]

/-- What holds between two rounds of Split's loop. -/
structure SI (w : World) (bf : Nat) (pre : List Fl) (W : World) : Prop where
  b2 : Boxed W w.heap.size 51 (.slice none 0 0)
  b3 : Boxed W (w.heap.size + 1) 25 (.int .i64 0)
  b4 : ∃ v, Boxed W (w.heap.size + 2) 51 v ∧ W.ownsRow (bf + 1) 60 2 v pre.length (cellsF (pre.map (·.1)))
  b5 : Boxed W (w.heap.size + 3) 4 (.bool (pre.any fun x => longF x.1))
  ok : ∀ x ∈ pre, x.2 = true
  low : Below w.heap.size w W
theorem SI.grow {w : World} {bf : Nat} {pre : List Fl} {W1 W2 : World} (h : SI w bf pre W1) (hg : W1.grownBy W2 (some bf)) (hb : w.heap.size + 4 ≤ bf) : SI w bf pre W2 := by
  obtain ⟨v, hv, ho⟩ := h.b4
  refine ⟨h.b2.kept hg (by simp; omega), h.b3.kept hg (by simp; omega), ⟨v, hv.kept hg (by simp; omega), ho.kept hg (.inr fun e => ?_)⟩, h.b5.kept hg (by simp; omega), h.ok, h.low.grown hg h.low.size (fun k e => by cases e; omega)⟩
  have := (ho.lt bf e).1; omega
theorem box_turn {W W' : World} {B : Nat} {t : TypeId} {v : Value} {row : Option Nat} (h : Boxed W B t v) (hg : W.grownBy W' row) (hr : ∀ r, row = some r → ∃ o : Obj, W.heap[r]? = some o ∧ o.isCells = false) : Boxed W' B t v :=
  h.kept hg (fun e => by
    obtain ⟨o, ho, hc⟩ := hr B e.symm
    rw [show W.heap[B]? = _ from h] at ho
    cases ho; cases hc)
theorem SI.own (w : World) (bf B : Nat) (hB : w.heap.size ≤ B) : OwnFrom B (SI w bf) := by
  intro pre W W' row h hg hr
  have hr' : ∀ r, row = some r → ∃ o : Obj, W.heap[r]? = some o ∧ o.isCells = false := fun r e => (hr r e).2
  obtain ⟨v, hv, ho⟩ := h.b4
  refine ⟨box_turn h.b2 hg hr', box_turn h.b3 hg hr', ⟨v, box_turn hv hg hr', ?_⟩, box_turn h.b5 hg hr', h.ok, h.low.grown hg h.low.size (fun k e => Nat.le_trans hB (hr k e).1)⟩
  refine ho.kept hg ?_
  rcases ho.2 with ⟨rfl, _⟩ | ⟨g, cap, cur, rfl, _, hgb, _⟩
  · exact .inl rfl
  · refine .inr fun e' => ?_
    obtain ⟨o, ho, hc⟩ := hr' g (by simpa [Value.ownBlock] using e'.symm)
    rw [hgb] at ho; cases ho; cases hc
def SX (w : World) (_bf : Nat) (c : Code) (pre : List Fl) (W : World) : Prop :=
  c = .ret ∧ (∃ x ∈ pre, x.2 = false) ∧ Boxed W w.heap.size 51 (.slice none 0 0) ∧ Boxed W (w.heap.size + 1) 25 (.int .i64 6) ∧ Below w.heap.size w W
def SPost (s : ByteArray) (w : World) (e : Ending) (w' : World) : Prop :=
  ∃ v, e = .returned (.tuple #[v, .int .i64 (splitE s.data.toList)]) ∧ w'.ownsRow w.heap.size 60 2 v (splitS s.data.toList).length (cellsF (splitS s.data.toList)) ∧ Below w.heap.size w w'

theorem fields_any (s : ByteArray) (w : World) : Calls Tryd.prog 41 #[.string s] w fun e w' => e = .returned (.func (.func 60) #[] #[.pointer (some ⟨w.heap.size, 0, none⟩)]) ∧ w.alloc (.cells #[.string s] 9) = w' := by
  go_enter Tryd.func41, Tryd.ntmps41
  go_wp2
  go_ret
  exact ⟨rfl, rfl⟩

theorem Tryd.infoFld : (Tryd.prog.info? 60).map (fun i => (i.zero, i.size, i.bytes)) = some (some (.agg #[.string ByteArray.empty, .bool false]), 2, 24) := by kernel_rfl
theorem SI.step {w : World} {bf : Nat} {pre : List Fl} {W w1 : World} (h : SI w bf pre W) (hbf : w.heap.size + 4 ≤ bf) (hlt : bf < W.heap.size) {x : Fl} (hx : x.2 = true) (tmp : Obj) {v v' : Value} {tl : Bool} (htl : tl = (pre ++ [x]).any fun x => longF x.1) (B : Nat)
    (hv : Boxed W (w.heap.size + 2) 51 v) (hrow : W.ownsRow (bf + 1) 60 2 v pre.length (cellsF (pre.map (·.1)))) (hown : w1.ownsRow (bf + 1) 60 2 v' (pre.length + 1) (cellsF (pre.map (·.1)) ++ [.string ⟨x.1.1.toArray⟩, .bool x.1.2]))
    (hgrow : ((W.setCell ⟨w.heap.size + 3, 0, none⟩ (.bool tl)).alloc tmp).grownBy w1 v.ownBlock) :
    KeepsFrom B W (w1.setCell ⟨w.heap.size + 2, 0, none⟩ v') ∧ Kb w.heap.size bf W (w1.setCell ⟨w.heap.size + 2, 0, none⟩ v') ∧ SI w bf (pre ++ [x]) (w1.setCell ⟨w.heap.size + 2, 0, none⟩ v') := by
  have hgt : ∀ k, v.ownBlock = some k → bf + 1 ≤ k := fun k e => (hrow.lt k e).1
  have hrow1 : (W.setCell ⟨w.heap.size + 3, 0, none⟩ (.bool tl)).ownsRow (bf + 1) 60 2 v pre.length (cellsF (pre.map (·.1))) := hrow.kept (grownBy_setCell' W (w.heap.size + 3) _) (by
    cases e : v.ownBlock with
    | none => exact .inl rfl
    | some k => exact .inr (by have := hgt k e; simp; omega))
  have hrow2 := hrow1.alloc tmp
  have far : ∀ (b : Nat) (t : TypeId) (u : Value), b < bf → Boxed (W.setCell ⟨w.heap.size + 3, 0, none⟩ (.bool tl)) b t u → Boxed w1 b t u := fun b t u hb hB => (hB.alloc tmp).kept hgrow (fun e => by have := hgt b e.symm; omega)
  have oth : ∀ (b : Nat) (t : TypeId) (u : Value), b ≠ w.heap.size + 3 → Boxed W b t u → Boxed (W.setCell ⟨w.heap.size + 3, 0, none⟩ (.bool tl)) b t u := fun b t u hb hB => hB.kept (grownBy_setCell' W (w.heap.size + 3) _) (by simpa using hb)
  have oth2 : ∀ (b : Nat) (t : TypeId) (u : Value), b ≠ w.heap.size + 2 → Boxed w1 b t u → Boxed (w1.setCell ⟨w.heap.size + 2, 0, none⟩ v') b t u := fun b t u hb hB => hB.kept (grownBy_setCell' w1 (w.heap.size + 2) _) (by simpa using hb)
  have hlow : Below w.heap.size W (w1.setCell ⟨w.heap.size + 2, 0, none⟩ v') :=
    ((((Below.refl w.heap.size W).setCell (p := ⟨w.heap.size + 3, 0, none⟩) (by simp) _).alloc (by simp; omega) tmp).grown hgrow (by simp; omega) (fun k e => by have := hgt k e; omega)).setCell (p := ⟨w.heap.size + 2, 0, none⟩) (by simp) _
  refine ⟨?_, ⟨hlow, ?_⟩, ?_⟩
  · refine (((KeepsOthers.setCell W _ _).trans (KeepsOthers.alloc _ tmp)).trans (KeepsOthers.of_grownBy hgrow fun j o ej hj => ?_)).trans (KeepsOthers.setCell _ _ _) |>.from B
    rcases hrow2.2 with ⟨rfl, _⟩ | ⟨g, cap, cur, rfl, _, hgb, _⟩
    · simp [Value.ownBlock] at ej
    · obtain rfl : g = j := by simpa [Value.ownBlock] using ej
      rw [hgb] at hj; cases hj; rfl
  · rw [Below.heap_setCell _ _ _ _ (by simp; omega), hgrow.block bf (by simp; omega) (fun e => by have := hgt bf e.symm; omega), Below.heap_alloc _ _ _ (by simp; omega), Below.heap_setCell _ _ _ _ (by simp; omega)]
  · refine ⟨oth2 _ _ _ (by omega) (far _ _ _ (by omega) (oth _ _ _ (by omega) h.b2)), oth2 _ _ _ (by omega) (far _ _ _ (by omega) (oth _ _ _ (by omega) h.b3)), ⟨v', ?_, ?_⟩, ?_, ?_, h.low.trans hlow⟩
    · exact (far _ _ _ (by omega) (oth _ _ _ (by omega) hv)).set v'
    · have hk := hown.kept (grownBy_setCell' w1 (w.heap.size + 2) v') (by
        cases e : v'.ownBlock with
        | none => exact .inl rfl
        | some k => exact .inr (by have := (hown.lt k e).1; simp; omega))
      simpa [cellsF] using hk
    · exact oth2 _ _ _ (by omega) (far _ _ _ (by omega) (by rw [← htl]; exact h.b5.set _))
    · intro y hy
      rcases List.mem_append.1 hy with hy | hy
      · exact h.ok y hy
      · obtain rfl : y = x := by simpa using hy
        exact hx
theorem SI.b4_after {w : World} {bf : Nat} {W w1 : World} {v u : Value} {tmp : Obj} {n : Nat} {xs : List Value} (hv : Boxed W (w.heap.size + 2) 51 v) (hrow : W.ownsRow (bf + 1) 60 2 v n xs) (hgrow : ((W.setCell ⟨w.heap.size + 3, 0, none⟩ u).alloc tmp).grownBy w1 v.ownBlock) (hbf : w.heap.size + 4 ≤ bf) : Boxed w1 (w.heap.size + 2) 51 v :=
  ((hv.kept (grownBy_setCell' W (w.heap.size + 3) _) (by simp)).alloc _).kept hgrow (fun e => by have := (hrow.lt _ e.symm).1; omega)
theorem ne_own {w : World} {base : Nat} {e : TypeId} {size : Nat} {v : Value} {n : Nat} {xs : List Value} (h : w.ownsRow base e size v n xs) {b : Nat} (hb : b < base) : v.ownBlock = none ∨ v.ownBlock ≠ some b := by
  cases e : v.ownBlock with
  | none => exact .inl rfl
  | some k => exact .inr (by have := (h.lt k e).1; simp; omega)
/-- A field in a block of its own. -/
def Ax (w : World) (s : ByteArray) (x : Fl) (a : Act) (W : World) : Prop := ∃ Bx : Nat, w.heap.size + 5 ≤ Bx ∧ Fb Bx ⟨x.1.1.toArray⟩ x.1.2 W ∧ a = { tmps := #[.string s, undef, .pointer (some ⟨w.heap.size, 0, none⟩), .pointer (some ⟨w.heap.size + 1, 0, none⟩), .pointer (some ⟨w.heap.size + 1 + 1, 0, none⟩), .pointer (some ⟨w.heap.size + 1 + 1 + 1, 0, none⟩), .pointer (some ⟨Bx, 0, none⟩), .bool x.2, .bool false, .string s, .int .i64 (s.size : Int), .bool false, .bool false, .string s, .bool false, .string s, .func (.func 60) #[] #[.pointer (some ⟨w.heap.size + 1 + 1 + 1 + 1, 0, none⟩)], .agg #[.string ⟨x.1.1.toArray⟩, .bool x.1.2], .bool x.2, undef, undef, undef, undef, undef, undef, undef, undef, undef, undef, undef, undef, undef, undef, undef, undef, undef, undef, undef, undef], defers := [] }
theorem Ax.own (w : World) (s : ByteArray) (x : Fl) (a : Act) (B : Nat) : OwnFrom B (fun (_ : Unit) W => Ax w s x a W) := by
  rintro _ W W' row ⟨Bx, h1, h2, rfl⟩ hg hr
  refine ⟨Bx, h1, ?_, rfl⟩
  refine (hg.block Bx h2.lt (fun e => ?_)).trans h2
  obtain ⟨_, o, ho, hc⟩ := hr Bx e.symm
  rw [show W.heap[Bx]? = _ from h2] at ho
  cases ho; cases hc

set_option maxRecDepth 100000 in
set_option maxHeartbeats 8000000 in
theorem Split_any (s : ByteArray) (w : World) (hs : s.size ≤ 9000) (hg : Gl w) :
    Calls Tryd.prog 24 #[.string s] w (SPost s w) := by
  by_cases hl : 8192 < s.size
  · have HF : Hid (splitS s.data.toList = [] ∧ splitE s.data.toList = 3) := by
      have : 8192 < s.data.toList.length := by rw [ba_len]; exact hl
      simp only [Hid, splitS, splitE]
      rw [if_pos (.inl this), if_pos this]; exact ⟨rfl, rfl⟩
    go_enter Tryd.func24, Tryd.ntmps24
    go_wp2
    refine bodyPost_ret (v := .tuple #[.slice none 0 0, .int .i64 3]) (by simp [results, Tryd.results24, go_sem]) rfl ?_
    unfold SPost
    rw [HF.out.1, HF.out.2]
    exact ⟨_, rfl, World.ownsRow_nil _ _ _ _, ((Ow.refl w).alloc _).alloc _⟩
  · by_cases hz : s.size = 0
    · have HF : Hid (splitS s.data.toList = [] ∧ splitE s.data.toList = 0) := by
        simp [Hid, splitS, splitE, ba_nil hz]
      have e0 := ba_empty hz
      go_enter Tryd.func24, Tryd.ntmps24
      go_wp2
      refine bodyPost_ret (v := .tuple #[.slice none 0 0, .int .i64 0]) (by simp [results, Tryd.results24, go_sem]) rfl ?_
      unfold SPost
      rw [HF.out.1, HF.out.2]
      exact ⟨_, rfl, World.ownsRow_nil _ _ _ _, ((Ow.refl w).alloc _).alloc _⟩
    · refine (callsIn_wide (n := 6)).1 ?_
      refine callsIn_of_wp_marks Tryd.func24 rfl trivial ?_ rfl
      simp only [Tryd.ntmps24, List.size_toArray, List.length_cons, List.length_nil, Nat.reduceAdd, Nat.reduceSub, Array.replicate_succ, Array.replicate_zero, List.push_toArray, List.append_toArray, List.nil_append, List.cons_append]
      have e0 := ba_full (s := s) (by omega)
      have e8 : decide ((8192 : Int) < (s.size : Int)) = false := by simp; omega
      have HZ := Lib.hid hz
      clear hz
      have HG := Lib.hid hg
      clear hg
      obtain ⟨i0, hi0, hz0, hz1, hz2⟩ := info_parts Tryd.infoFld
      gi_wp2_with (refine ⟨trivial, ?_⟩; gi_at_call 41; refine (callsIn_wide.2 (fields_any _ _)).mono ?_; rintro e w2 ⟨rfl, rfl⟩)
      have hB : Below w.heap.size w (((((w.alloc (.cells #[.slice none 0 0] 51)).alloc (.cells #[.int .i64 0] 25)).alloc (.cells #[.slice none 0 0] 51)).alloc (.cells #[.bool false] 4)).alloc (.cells #[.string s] 9)) := (((((Ow.refl w).alloc _).alloc _).alloc _).alloc _).alloc _
      have hline : (((((w.alloc (.cells #[.slice none 0 0] 51)).alloc (.cells #[.int .i64 0] 25)).alloc (.cells #[.slice none 0 0] 51)).alloc (.cells #[.bool false] 4)).alloc (.cells #[.string s] 9)).cell? ⟨w.heap.size + 1 + 1 + 1 + 1, 0, none⟩ = some (.string s) := by
        have := Boxed.new ((((w.alloc (.cells #[.slice none 0 0] 51)).alloc (.cells #[.int .i64 0] 25)).alloc (.cells #[.slice none 0 0] 51)).alloc (.cells #[.bool false] 4)) 9 (.string s)
        simpa using this.cell
      have hI0 : ∀ bf, w.heap.size + 5 + 2 ≤ bf → SI w bf [] (((((w.alloc (.cells #[.slice none 0 0] 51)).alloc (.cells #[.int .i64 0] 25)).alloc (.cells #[.slice none 0 0] 51)).alloc (.cells #[.bool false] 4)).alloc (.cells #[.string s] 9)) := fun bf _ => by
        have b2 : Boxed (w.alloc (.cells #[.slice none 0 0] 51)) w.heap.size 51 (.slice none 0 0) := Boxed.new _ _ _
        have b3 : Boxed ((w.alloc (.cells #[.slice none 0 0] 51)).alloc (.cells #[.int .i64 0] 25)) (w.heap.size + 1) 25 (.int .i64 0) := by simpa using Boxed.new (w.alloc (.cells #[.slice none 0 0] 51)) 25 (.int .i64 0)
        have b4 : Boxed (((w.alloc (.cells #[.slice none 0 0] 51)).alloc (.cells #[.int .i64 0] 25)).alloc (.cells #[.slice none 0 0] 51)) (w.heap.size + 2) 51 (.slice none 0 0) := by simpa using Boxed.new ((w.alloc (.cells #[.slice none 0 0] 51)).alloc (.cells #[.int .i64 0] 25)) 51 (.slice none 0 0)
        have b5 : Boxed ((((w.alloc (.cells #[.slice none 0 0] 51)).alloc (.cells #[.int .i64 0] 25)).alloc (.cells #[.slice none 0 0] 51)).alloc (.cells #[.bool false] 4)) (w.heap.size + 3) 4 (.bool false) := by simpa using Boxed.new (((w.alloc (.cells #[.slice none 0 0] 51)).alloc (.cells #[.int .i64 0] 25)).alloc (.cells #[.slice none 0 0] 51)) 4 (.bool false)
        exact ⟨(((b2.alloc _).alloc _).alloc _).alloc _, ((b3.alloc _).alloc _).alloc _, ⟨_, (b4.alloc _).alloc _, World.ownsRow_nil _ _ _ _⟩, b5.alloc _, by simp, hB⟩
      have hsz : (((((w.alloc (.cells #[.slice none 0 0] 51)).alloc (.cells #[.int .i64 0] 25)).alloc (.cells #[.slice none 0 0] 51)).alloc (.cells #[.bool false] 4)).alloc (.cells #[.string s] 9)).heap.size = w.heap.size + 5 := by simp
      have hgl : ∀ w', Below w.heap.size (((((w.alloc (.cells #[.slice none 0 0] 51)).alloc (.cells #[.int .i64 0] 25)).alloc (.cells #[.slice none 0 0] 51)).alloc (.cells #[.bool false] 4)).alloc (.cells #[.string s] 9)) w' → Gl w' := fun w' h => HG.out.below (hB.trans h)
      generalize (((((w.alloc (.cells #[.slice none 0 0] 51)).alloc (.cells #[.int .i64 0] 25)).alloc (.cells #[.slice none 0 0] 51)).alloc (.cells #[.bool false] 4)).alloc (.cells #[.string s] 9)) = W0 at hB hline hI0 hsz hgl ⊢
      refine wpIn_rangeFunc_B (n₀ := w.heap.size) (w0 := W0) (by omega) (gf := 60) (lb := #[.pointer (some ⟨w.heap.size + 1 + 1 + 1 + 1, 0, none⟩)]) rfl (enters_of Tryd.func60 (by kernel_rfl) rfl)
        (fields_seq 5 (by omega) s hs W0 (w.heap.size + 1 + 1 + 1 + 1) (by omega) hline w.heap.size (by omega) hgl) (by omega) (Below.refl _ _) (fun _ => rfl)
        (SI w) (SX w) (fun bf pre W1 W2 hbf h hg => h.grow hg (by omega)) ?ixb (fun bf => SI.own w bf _ (by omega)) ?ix (fun bf hbf => hI0 bf (by omega)) (Ax w s) (fun x a' => Ax.own w s x a' _) ?assign ?body ?done ?stop
      case ixb =>
        rintro bf c pre W1 W2 hbf ⟨h1, h2, h3, h4, h5⟩ hg
        exact ⟨h1, h2, h3.kept hg (by simp; omega), h4.kept hg (by simp; omega), h5.grown hg h5.size (fun k e => by cases e; omega)⟩
      case ix =>
        rintro bf c pre W1 W2 row ⟨h1, h2, h3, h4, h5⟩ hg hr
        have hr' : ∀ r, row = some r → ∃ o : Obj, W1.heap[r]? = some o ∧ o.isCells = false := fun r e => (hr r e).2
        exact ⟨h1, h2, box_turn h3 hg hr', box_turn h4 hg hr', h5.grown hg h5.size (fun k e => by have := (hr k e).1; omega)⟩
      case assign =>
        intro l bf pre x W K hbf hlt hI hK
        obtain ⟨⟨S, q⟩, ok⟩ := x
        unfold encs2
        gi_wp2
        exact hK _ _ ((KeepsOthers.alloc _ _).from _) ⟨(Below.refl _ _).alloc hI.low.size _, Below.heap_alloc _ _ _ hlt⟩ (by simp; omega) (hI.grow (World.grownBy_alloc _ _ _) (by omega)) ⟨W.heap.size, by omega, heap_alloc_new _ _, rfl⟩
      case body =>
        rintro l bf pre ⟨⟨S, q⟩, ok⟩ a' W hbf hlt hI ⟨Bx, hBx, hbx, rfl⟩ hlen
        have hgl := hI.low
        cases ok with
        | false =>
          have c2 := hI.b2.cell
          have c3 := hI.b3.cell
          have z2 := hI.b2.frozen
          have z3 := hI.b3.frozen
          have HI := Lib.hid hI
          have HBx := Lib.hid hbx
          clear hI hbx hgl
          gi_wp2
          exact ⟨((KeepsOthers.setCell _ _ _).trans (KeepsOthers.setCell _ _ _)).from _, rfl, ⟨((S, q), false), List.mem_append.2 (.inr (by simp)), rfl⟩, (HI.out.b2.set _).kept (grownBy_setCell' _ _ _) (by simp), (HI.out.b3.kept (grownBy_setCell' _ _ _) (by simp)).set _, (HI.out.low.setCell (p := ⟨w.heap.size, 0, none⟩) (Nat.le_refl _) _).setCell (p := ⟨w.heap.size + 1, 0, none⟩) (by simp) _⟩
        | true =>
          obtain ⟨v, hv, hrow⟩ := hI.b4
          have HV := Lib.hid hv
          have HRW := Lib.hid hrow
          have HR1 : Hid (∀ u, (W.setCell ⟨w.heap.size + 3, 0, none⟩ u).ownsRow (bf + 1) 60 2 v pre.length (cellsF (pre.map (·.1)))) := fun u => hrow.kept (grownBy_setCell' W (w.heap.size + 3) _) (by
            cases e : v.ownBlock with
            | none => exact .inl rfl
            | some k => exact .inr (by have := (hrow.lt k e).1; simp; omega))
          obtain ⟨t, ht⟩ : ∃ t : ByteArray, (⟨S.toArray⟩ : ByteArray) = t := ⟨_, rfl⟩
          rw [ht] at hbx
          have HT := Lib.hid ht
          have b0 : W.cell? ⟨Bx, 0, none⟩ = some (.string t) := hbx.c0
          have b1 : W.cell? ⟨Bx, 1, none⟩ = some (.bool q) := hbx.c1
          have c4 : W.cell? ⟨w.heap.size + 1 + 1, 0, none⟩ = some v := hv.cell
          have z5 : W.frozen? ⟨w.heap.size + 1 + 1 + 1, 0, none⟩ = false := hI.b5.frozen
          obtain ⟨tl, htl⟩ : ∃ tl, (pre.any fun x => longF x.1) = tl := ⟨_, rfl⟩
          have c5 : W.cell? ⟨w.heap.size + 1 + 1 + 1, 0, none⟩ = some (.bool tl) := by rw [← htl]; exact hI.b5.cell
          have HTL := Lib.hid htl
          have HI := Lib.hid hI
          have htz : S.length = t.size := by rw [← ht, ← ba_len]
          have HTZ := Lib.hid htz
          simp only [ht]
          have hsz1 : w.heap.size + 4 < W.heap.size := by omega
          clear hI hv hrow hbx hgl ht htl htz
          cases tl with
          | true =>
            gi_wp2_with (gi_at_builtin; refine wpListIn_append_own _ rfl _ _ 51 rfl (bf + 1) 60 i0 (.agg #[.string ByteArray.empty, .bool false]) 2 24 Tryd.underlying51 hi0 hz0 hz1 hz2 rfl (by decide) v pre.length (cellsF (pre.map (·.1))) rfl ((HR1.out _).alloc _) ⟨W.heap.size, 0, none⟩ 1 1 [.string t, .bool q] rfl rfl (by simpa using cell_two_new (W.setCell ⟨w.heap.size + 3, 0, none⟩ (.bool true)) (.string t) (.bool q) 60) (by simp [Value.oneCell']) (by unfold maxLen; omega) (by omega) (by simp; omega) ?_; intro v' w1 hown1 hgrow hnil; obtain ⟨g', cap', rfl⟩ := ownsRow_succ hown1; have hv1 := SI.b4_after HV.out HRW.out hgrow (by omega); have c4 := hv1.cell; have z4 := hv1.frozen)
            exact HI.out.step (by omega) hlt rfl _ (tl := true) (by rw [List.any_append, HTL.out]; rfl) _ HV.out HRW.out (by rw [HT.out]; exact hown1) hgrow
          | false =>
            by_cases hlong : 2000 < t.size
            · have e2 : decide ((2000 : Int) < (t.size : Int)) = true := decide_eq_true (by omega)
              gi_wp2_with (gi_at_builtin; refine wpListIn_append_own _ rfl _ _ 51 rfl (bf + 1) 60 i0 (.agg #[.string ByteArray.empty, .bool false]) 2 24 Tryd.underlying51 hi0 hz0 hz1 hz2 rfl (by decide) v pre.length (cellsF (pre.map (·.1))) rfl ((HR1.out _).alloc _) ⟨W.heap.size, 0, none⟩ 1 1 [.string t, .bool q] rfl rfl (by simpa using cell_two_new (W.setCell ⟨w.heap.size + 3, 0, none⟩ (.bool true)) (.string t) (.bool q) 60) (by simp [Value.oneCell']) (by unfold maxLen; omega) (by omega) (by simp; omega) ?_; intro v' w1 hown1 hgrow hnil; obtain ⟨g', cap', rfl⟩ := ownsRow_succ hown1; have hv1 := SI.b4_after HV.out HRW.out hgrow (by omega); have c4 := hv1.cell; have z4 := hv1.frozen)
              exact HI.out.step (by omega) hlt rfl _ (tl := true) (by rw [List.any_append, HTL.out]; simp only [List.any_cons, List.any_nil, longF, HTZ.out, decide_eq_true hlong]; rfl) _ HV.out HRW.out (by rw [HT.out]; exact hown1) hgrow
            · have e2 : decide ((2000 : Int) < (t.size : Int)) = false := decide_eq_false (by omega)
              gi_wp2_with (gi_at_builtin; refine wpListIn_append_own _ rfl _ _ 51 rfl (bf + 1) 60 i0 (.agg #[.string ByteArray.empty, .bool false]) 2 24 Tryd.underlying51 hi0 hz0 hz1 hz2 rfl (by decide) v pre.length (cellsF (pre.map (·.1))) rfl ((HR1.out _).alloc _) ⟨W.heap.size, 0, none⟩ 1 1 [.string t, .bool q] rfl rfl (by simpa using cell_two_new (W.setCell ⟨w.heap.size + 3, 0, none⟩ (.bool false)) (.string t) (.bool q) 60) (by simp [Value.oneCell']) (by unfold maxLen; omega) (by omega) (by simp; omega) ?_; intro v' w1 hown1 hgrow hnil; obtain ⟨g', cap', rfl⟩ := ownsRow_succ hown1; have hv1 := SI.b4_after HV.out HRW.out hgrow (by omega); have c4 := hv1.cell; have z4 := hv1.frozen)
              exact HI.out.step (by omega) hlt rfl _ (tl := false) (by rw [List.any_append, HTL.out]; simp only [List.any_cons, List.any_nil, longF, HTZ.out, decide_eq_false hlong]; rfl) _ HV.out HRW.out (by rw [HT.out]; exact hown1) hgrow
      case done =>
        rintro D bf xs W hD hbf hbfS hI hK
        subst hbfS
        have hsp : spl s.data.toList = some ((itL s.data.toList).map (·.1)) := by
          rw [spl_it, if_pos]
          exact List.all_eq_true.2 (fun x hx => hI.ok x hx)
        have e1 : ¬ 8192 < s.data.toList.length := by rw [ba_len]; exact hl
        have e2 : ¬ s.data.toList = [] := fun e => HZ.out (by rw [← ba_len, e]; rfl)
        have HSp : Hid ((splitS s.data.toList = if ((itL s.data.toList).map (·.1)).any longF = true ∨ 64 < ((itL s.data.toList).map (·.1)).length then [] else (itL s.data.toList).map (·.1)) ∧ (splitE s.data.toList = if ((itL s.data.toList).map (·.1)).any longF = true ∨ 64 < ((itL s.data.toList).map (·.1)).length then 3 else 0)) := by
          simp only [Hid, splitS, splitE, hsp]
          rw [if_neg (not_or.2 ⟨e1, e2⟩), if_neg e1, if_neg e2]; exact ⟨rfl, rfl⟩
        clear hsp e1 e2
        obtain ⟨v, hv, hrow⟩ := hI.b4
        have b2 := hI.b2
        have b3 := hI.b3
        have hI' := Lib.hid hI
        have c2 := b2.cell
        have c3 := b3.cell
        have z2 := b2.frozen
        have z3 := b3.frozen
        have c4 : W.cell? ⟨w.heap.size + 1 + 1, 0, none⟩ = some v := hv.cell
        have HRW := Lib.hid hrow
        have HLn : Hid (((itL s.data.toList).map (·.1)).length = (itL s.data.toList).length) := List.length_map _
        have HAny : Hid (((itL s.data.toList).map (·.1)).any longF = (itL s.data.toList).any fun x => longF x.1) := by rw [Hid, List.any_map]; rfl
        obtain ⟨tl, htl⟩ : ∃ tl, ((itL s.data.toList).any fun x => longF x.1) = tl := ⟨_, rfl⟩
        have c5 : W.cell? ⟨w.heap.size + 1 + 1 + 1, 0, none⟩ = some (.bool tl) := by rw [← htl]; exact hI.b5.cell
        have HTL := Lib.hid htl
        clear hI hv htl
        cases tl with
        | true =>
          have HF : Hid (splitS s.data.toList = [] ∧ splitE s.data.toList = 3) := by
            have h := HSp.out
            rw [HAny.out, HTL.out, if_pos (.inl rfl), if_pos (.inl rfl)] at h
            exact h
          clear hrow
          gi_wp2
          have hK2 := ((KeepsOthers.setCell W ⟨w.heap.size, 0, none⟩ (.slice none 0 0)).trans (KeepsOthers.setCell _ ⟨w.heap.size + 1, 0, none⟩ (.int .i64 3))).same D _ hK rfl
          have h2b := (b2.set (.slice none 0 0)).kept (grownBy_setCell' _ (w.heap.size + 1) (.int .i64 3)) (by simp)
          have h3b := (b3.kept (grownBy_setCell' _ w.heap.size (.slice none 0 0)) (by simp)).set (.int .i64 3)
          refine ⟨by simp, .inl ⟨_, _, rfl, run_takeDeferred hK2, ?_⟩⟩
          have k3 := (h2b.kept (grownBy_putObj' _ D (.deferred none)) (by simp; omega)).cell
          have k4 := (h3b.kept (grownBy_putObj' _ D (.deferred none)) (by simp; omega)).cell
          refine ⟨.tuple #[.slice none 0 0, .int .i64 3], ?_, ?_⟩
          · simp [results, Tryd.f24, go_sem, k3, k4]
          · unfold SPost
            rw [HF.out.1, HF.out.2]
            exact ⟨_, rfl, World.ownsRow_nil _ _ _ _, (((hI'.out.low.setCell (p := ⟨w.heap.size, 0, none⟩) (Nat.le_refl _) _).setCell (p := ⟨w.heap.size + 1, 0, none⟩) (by simp) _).trans (belowK_b (w := W0) (by omega) _ D _ _ hD hK2 rfl rfl))⟩
        | false =>
          have hnn : ¬ (false = true) := by simp
          rcases Joins.ownsRow_forms hrow with ⟨rfl, h0⟩ | ⟨g, cap, rfl⟩
          · have HF : Hid (splitS s.data.toList = (itL s.data.toList).map (·.1) ∧ splitE s.data.toList = 0) := by
              have h := HSp.out
              rw [HAny.out, HTL.out, HLn.out, if_neg (by rw [h0]; simp), if_neg (by rw [h0]; simp)] at h
              exact h
            have HRW2 := HRW
            clear hrow h0
            gi_wp2
            have hK2 := ((KeepsOthers.setCell W ⟨w.heap.size, 0, none⟩ (.slice none 0 0)).trans (KeepsOthers.setCell _ ⟨w.heap.size + 1, 0, none⟩ (.int .i64 0))).same D _ hK rfl
            have h2b := (b2.set (.slice none 0 0)).kept (grownBy_setCell' _ (w.heap.size + 1) (.int .i64 0)) (by simp)
            have h3b := (b3.kept (grownBy_setCell' _ w.heap.size (.slice none 0 0)) (by simp)).set (.int .i64 0)
            refine ⟨by simp, .inl ⟨_, _, rfl, run_takeDeferred hK2, ?_⟩⟩
            have k3 := (h2b.kept (grownBy_putObj' _ D (.deferred none)) (by simp; omega)).cell
            have k4 := (h3b.kept (grownBy_putObj' _ D (.deferred none)) (by simp; omega)).cell
            refine ⟨.tuple #[.slice none 0 0, .int .i64 0], ?_, ?_⟩
            · simp [results, Tryd.f24, go_sem, k3, k4]
            · unfold SPost
              rw [HF.out.1, HF.out.2]
              refine ⟨_, rfl, ?_, (((hI'.out.low.setCell (p := ⟨w.heap.size, 0, none⟩) (Nat.le_refl _) _).setCell (p := ⟨w.heap.size + 1, 0, none⟩) (by simp) _).trans (belowK_b (w := W0) (by omega) _ D _ _ hD hK2 rfl rfl))⟩
              rw [HLn.out]
              refine Joins.ownsRow_le (base := bf + 1) (ownsRow_putObj ((HRW.out.kept (grownBy_setCell' _ w.heap.size _) (ne_own HRW.out (by omega))).kept (grownBy_setCell' _ (w.heap.size + 1) _) (ne_own HRW.out (by omega))) _ hK2 rfl) (by omega)
          · by_cases h64 : 64 < (itL s.data.toList).length
            · have HF : Hid (splitS s.data.toList = [] ∧ splitE s.data.toList = 3) := by
                have h := HSp.out
                rw [HAny.out, HTL.out, HLn.out, if_pos (.inr h64), if_pos (.inr h64)] at h
                exact h
              clear hrow
              gi_wp2
              have hK2 := ((KeepsOthers.setCell W ⟨w.heap.size, 0, none⟩ (.slice none 0 0)).trans (KeepsOthers.setCell _ ⟨w.heap.size + 1, 0, none⟩ (.int .i64 3))).same D _ hK rfl
              have h2b := (b2.set (.slice none 0 0)).kept (grownBy_setCell' _ (w.heap.size + 1) (.int .i64 3)) (by simp)
              have h3b := (b3.kept (grownBy_setCell' _ w.heap.size (.slice none 0 0)) (by simp)).set (.int .i64 3)
              refine ⟨by simp, .inl ⟨_, _, rfl, run_takeDeferred hK2, ?_⟩⟩
              have k3 := (h2b.kept (grownBy_putObj' _ D (.deferred none)) (by simp; omega)).cell
              have k4 := (h3b.kept (grownBy_putObj' _ D (.deferred none)) (by simp; omega)).cell
              refine ⟨.tuple #[.slice none 0 0, .int .i64 3], ?_, ?_⟩
              · simp [results, Tryd.f24, go_sem, k3, k4]
              · unfold SPost
                rw [HF.out.1, HF.out.2]
                exact ⟨_, rfl, World.ownsRow_nil _ _ _ _, (((hI'.out.low.setCell (p := ⟨w.heap.size, 0, none⟩) (Nat.le_refl _) _).setCell (p := ⟨w.heap.size + 1, 0, none⟩) (by simp) _).trans (belowK_b (w := W0) (by omega) _ D _ _ hD hK2 rfl rfl))⟩
            · have HF : Hid (splitS s.data.toList = (itL s.data.toList).map (·.1) ∧ splitE s.data.toList = 0) := by
                have h := HSp.out
                rw [HAny.out, HTL.out, HLn.out, if_neg (by simp; omega), if_neg (by simp; omega)] at h
                exact h
              clear hrow
              gi_wp2
              have hK2 := ((KeepsOthers.setCell W ⟨w.heap.size, 0, none⟩ (.slice (some ⟨g, 0, none⟩) (itL s.data.toList).length cap)).trans (KeepsOthers.setCell _ ⟨w.heap.size + 1, 0, none⟩ (.int .i64 0))).same D _ hK rfl
              have h2b := (b2.set (.slice (some ⟨g, 0, none⟩) (itL s.data.toList).length cap)).kept (grownBy_setCell' _ (w.heap.size + 1) (.int .i64 0)) (by simp)
              have h3b := (b3.kept (grownBy_setCell' _ w.heap.size (.slice (some ⟨g, 0, none⟩) (itL s.data.toList).length cap)) (by simp)).set (.int .i64 0)
              refine ⟨by simp, .inl ⟨_, _, rfl, run_takeDeferred hK2, ?_⟩⟩
              have k3 := (h2b.kept (grownBy_putObj' _ D (.deferred none)) (by simp; omega)).cell
              have k4 := (h3b.kept (grownBy_putObj' _ D (.deferred none)) (by simp; omega)).cell
              refine ⟨.tuple #[.slice (some ⟨g, 0, none⟩) (itL s.data.toList).length cap, .int .i64 0], ?_, ?_⟩
              · simp [results, Tryd.f24, go_sem, k3, k4]
              · unfold SPost
                rw [HF.out.1, HF.out.2]
                refine ⟨_, rfl, ?_, (((hI'.out.low.setCell (p := ⟨w.heap.size, 0, none⟩) (Nat.le_refl _) _).setCell (p := ⟨w.heap.size + 1, 0, none⟩) (by simp) _).trans (belowK_b (w := W0) (by omega) _ D _ _ hD hK2 rfl rfl))⟩
                rw [HLn.out]
                refine Joins.ownsRow_le (base := bf + 1) (ownsRow_putObj ((HRW.out.kept (grownBy_setCell' _ w.heap.size _) (ne_own HRW.out (by omega))).kept (grownBy_setCell' _ (w.heap.size + 1) _) (ne_own HRW.out (by omega))) _ hK2 rfl) (by omega)

      case stop =>
        rintro D bf c pre W hD hpre ⟨rfl, ⟨x, hx, hf⟩, h3, h4, h5⟩ hK
        have hsp : spl s.data.toList = none := by
          rw [spl_it, if_neg]
          intro h
          have := List.all_eq_true.1 h x (hpre.subset hx)
          rw [hf] at this; cases this
        have HF : Hid (splitS s.data.toList = [] ∧ splitE s.data.toList = 6) := by
          have e1 : ¬ 8192 < s.data.toList.length := by rw [ba_len]; exact hl
          have e2 : ¬ s.data.toList = [] := fun e => HZ.out (by rw [← ba_len, e]; rfl)
          simp only [Hid, splitS, splitE, hsp]
          rw [if_neg (not_or.2 ⟨e1, e2⟩), if_neg e1, if_neg e2]; exact ⟨rfl, rfl⟩
        clear hsp
        gi_wp2
        refine ⟨by simp, .inl ⟨_, _, rfl, run_takeDeferred hK, ?_⟩⟩
        have k3 := (h3.kept (grownBy_putObj' W D (.deferred none)) (by simp; omega)).cell
        have k4 := (h4.kept (grownBy_putObj' W D (.deferred none)) (by simp; omega)).cell
        refine ⟨.tuple #[.slice none 0 0, .int .i64 6], ?_, ?_⟩
        · simp [results, Tryd.f24, go_sem, k3, k4]
        · unfold SPost
          rw [HF.out.1, HF.out.2]
          exact ⟨_, rfl, World.ownsRow_nil _ _ _ _, h5.trans (belowK_b (w := W0) (by omega) W D _ _ hD hK rfl rfl)⟩
end Go.Proofs.YtaojogaakhidhaaDoor

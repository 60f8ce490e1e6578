/- A scope in which the run jumps to several labels, inside a fence; a loop over an iterator that writes a block of its own. No program in sight. -/
import Derived.RangeFuncNested
import Derived.RangeFuncBound
import Derived.RangeFuncCalls
import Derived.RangeFuncLeaves
import Derived.Shelf.Abstract
import Derived.Shelf.RegionOpen
import Derived.WalkKit
import Derived.OwnWalkIn
import Derived.TacticsInMore
import Derived.LoopNIn
import Derived.LoopIn
namespace Go.Proofs.YtaojogaakhidhaaDoor
open Go.RowKit

section
variable {P : Program} {b : Frame} {a : Act} {k : List Item} {cs : List Frame} {w : World}
theorem stepR_scope {c : Code} : step P (lone (b.atR a (.code (.scope c) :: k)) cs w) = .next (lone (b.atR a (.code c :: .inScope c :: k)) cs w) :=
  step_lone_go (by simp [stepG, stepG.exec, Frame.atR])
theorem stepR_inScope {c : Code} : step P (lone (b.atR a (.inScope c :: k)) cs w) = .next (lone (b.atR a k) cs w) :=
  step_lone_go (by simp [stepG, stepG.exec, Frame.atR])
end
/-- As Q; by a goto: J of the label. -/
def jumps (J : Nat → Act → World → Prop) (Q : Exit → Act → World → Prop) : Exit → Act → World → Prop
  | .goto l, a, w => J l a w
  | e, a, w => Q e a w
theorem pass_scope {I : Machine → Prop} {P : Program} {m : Machine} {b : Frame} {c : Code} {k : List Item} {cs : List Frame} {e : Exit} {a : Act} {w : World}
    (h1 : e ≠ .normal) (h2 : ∀ l, e ≠ .goto l) (h : ArrivesIn I P m b (.inScope c :: k) cs e a w) : ArrivesIn I P m b k cs e a w := by
  cases e with
  | normal => exact absurd rfl h1
  | exit id => exact ⟨fun k' hk => h.1 k' (by simpa [exitTo] using hk), fun hr hk => h.2 hr (by simpa [exitTo] using hk)⟩
  | goto l => exact absurd rfl (h2 l)
  | ret => exact h
  | panic chain => exact h
  | outgrown => exact h
theorem wpIn_scope_jumps {F : Fence} {n : Nat} {P : Program} {Q : Exit → Act → World → Prop} {a : Act} {w : World} {c : Code} (J : Nat → Act → World → Prop) (μ : Nat → Act → World → Nat)
    (first : c.wpIn F n P (jumps J Q) a w)
    (pass : ∀ l a w, J l a w → ∃ rest, findLabel c l = some rest ∧ rest.wpIn F n P (jumps (fun l' a' w' => J l' a' w' ∧ μ l' a' w' < μ l a w) Q) a w) : (Code.scope c).wpIn F n P Q a w := by
  intro b k cs hro hb hr
  have key : ∀ j l a w, μ l a w = j → J l a w → ∃ k', gotoIn l (.inScope c :: k) = some k' ∧ ∃ e a' w', Q e a' w' ∧ ArrivesIn (Machine.fenced P F) P (lone (b.atR a k') cs w) b k cs e a' w' := by
    intro j
    induction j using Nat.strongRecOn with
    | _ j ih =>
      intro l a w hn hJ
      obtain ⟨rest, hf, hp⟩ := pass l a w hJ
      have hg : gotoIn l (.inScope c :: k) = some (.code rest :: .inScope c :: k) := by simp [gotoIn, hf]
      refine ⟨_, hg, ?_⟩
      obtain ⟨e, a₁, w₁, hq, harr⟩ := hp b (.inScope c :: k) cs hro hb hr
      cases e with
      | normal => exact ⟨.normal, a₁, w₁, hq, StepsIn.trans harr (.one (fenced_calm hb hr rfl) stepR_inScope)⟩
      | exit id => exact ⟨.exit id, a₁, w₁, hq, pass_scope (by simp) (by simp) harr⟩
      | goto l' =>
        obtain ⟨hJ', hlt⟩ := hq
        obtain ⟨k', hk', e₂, a₂, w₂, hq₂, harr₂⟩ := ih _ (hn ▸ hlt) l' a₁ w₁ rfl hJ'
        exact ⟨e₂, a₂, w₂, hq₂, .of_steps (harr.1 _ hk') harr₂⟩
      | ret => exact ⟨_, a₁, w₁, hq, pass_scope (by simp) (by simp) harr⟩
      | panic ch => exact ⟨_, a₁, w₁, hq, pass_scope (by simp) (by simp) harr⟩
      | outgrown => exact ⟨_, a₁, w₁, hq, pass_scope (by simp) (by simp) harr⟩
  have h0 : (lone (b.atR a (.code (.scope c) :: k)) cs w).fenced P F := fenced_calm hb hr rfl
  obtain ⟨e, a₁, w₁, hq, harr⟩ := first b (.inScope c :: k) cs hro hb hr
  cases e with
  | normal => exact ⟨.normal, a₁, w₁, hq, .head h0 stepR_scope (StepsIn.trans harr (.one (fenced_calm hb hr rfl) stepR_inScope))⟩
  | exit id => exact ⟨.exit id, a₁, w₁, hq, .of_steps (.one h0 stepR_scope) (pass_scope (by simp) (by simp) harr)⟩
  | goto l =>
    obtain ⟨k', hk', e₂, a₂, w₂, hq₂, harr₂⟩ := key _ l a₁ w₁ rfl hq
    exact ⟨e₂, a₂, w₂, hq₂, .of_steps (.head h0 stepR_scope (harr.1 _ hk')) harr₂⟩
  | ret => exact ⟨_, a₁, w₁, hq, .of_steps (.one h0 stepR_scope) (pass_scope (by simp) (by simp) harr)⟩
  | panic ch => exact ⟨_, a₁, w₁, hq, .of_steps (.one h0 stepR_scope) (pass_scope (by simp) (by simp) harr)⟩
  | outgrown => exact ⟨_, a₁, w₁, hq, .of_steps (.one h0 stepR_scope) (pass_scope (by simp) (by simp) harr)⟩

/-- What a round keeps: whatever lay below n₀, and the iterator's own block. -/
def Kb (n₀ bf : Nat) (W W' : World) : Prop := Below n₀ W W' ∧ W'.heap[bf]? = W.heap[bf]?
theorem Kb.trans {n₀ bf : Nat} {A B C : World} (h : Kb n₀ bf A B) (k : Kb n₀ bf B C) : Kb n₀ bf A C := ⟨h.1.trans k.1, k.2.trans h.2⟩
/-- The contract of an iterator that writes one block of its own. -/
def SeqB {α : Type} (m : Nat) (P : Program) (g : Nat) (lb : Array Value) (encs : α → Array Value) (n₀ : Nat) (S Sp : List α → Prop) (N : Nat) (w : World) : Prop :=
  ∀ (l : Nat) (J Jx : Nat → List α → World → Prop) (W : World), Below w.heap.size w W →
    (∀ bf pre W1 W2, W.heap.size ≤ bf → J bf pre W1 → W1.grownBy W2 (some bf) → J bf pre W2) →
    (∀ bf pre W1 W2, W.heap.size ≤ bf → Jx bf pre W1 → W1.grownBy W2 (some bf) → Jx bf pre W2) →
    (∀ bf pre x W1, W.heap.size ≤ bf → bf < W1.heap.size → J bf pre W1 → pre.length < N → YieldAt Fence.wide (m - 1) P l (encs x) W1 fun e W' =>
      (e = .returned (.bool true) ∧ J bf (pre ++ [x]) W' ∧ Kb n₀ bf W1 W') ∨ (e = .returned (.bool false) ∧ Jx bf (pre ++ [x]) W')) →
    (∀ bf, W.heap.size ≤ bf → J bf [] W) →
    CallsIn Fence.wide m P g (#[.func (.yield l) #[] #[]] ++ lb) W fun e W' => (∃ v, e = .returned v) ∧ ((∃ bf xs, S xs ∧ J bf xs W') ∨ (∃ bf pre, Sp pre ∧ Jx bf pre W'))

def postB {α : Type} (B n₀ bf : Nat) (I : Nat → List α → World → Prop) (Ix : Nat → Code → List α → World → Prop) (xs : List α) (W : World) : Exit → Act → World → Prop
  | .normal, _, W' => KeepsFrom B W W' ∧ Kb n₀ bf W W' ∧ I bf xs W'
  | .ret, _, W' => KeepsFrom B W W' ∧ Ix bf .ret xs W'
  | .exit id, _, W' => KeepsFrom B W W' ∧ Ix bf (.exit id) xs W'
  | .goto t, _, W' => KeepsFrom B W W' ∧ Ix bf (.goto t) xs W'
  | .panic _, _, _ => False
  | .outgrown, _, _ => False

variable {n : Nat} {P : Program}
theorem grownBy_other {W W' : World} {bf r : Nat} {o : Obj} (hg : W.grownBy W' (some bf)) (h : W.heap[r]? = some o) (hne : r ≠ bf) : W'.heap[r]? = some o :=
  (hg.block r (Array.getElem?_eq_some_iff.1 h).1 (by simpa using hne)).trans h
/-- A loop over such an iterator. -/
theorem wpIn_rangeFunc_B {α : Type} {g : Operand} {ps : Array Tmp} {assign body : Code} {Q : Exit → Act → World → Prop} {a : Act} {w : World}
    (h1 : 1 ≤ n) {gf : Nat} {lb : Array Value} (hg : a.eval g = .func (.func gf) #[] lb) (eg : ∀ args w, (callFunc gf args).run P w = .ok (.enter gf args) w)
    {encs : α → Array Value} {n₀ : Nat} {S Sp : List α → Prop} {N : Nat} {w0 : World} (hseq : SeqB (n - 1) P gf lb encs n₀ S Sp N w0) (hn0 : n₀ ≤ w.heap.size)
    (hb0 : Below w0.heap.size w0 w) (hps : ∀ x, (encs x).size = ps.size)
    (I : Nat → List α → World → Prop) (Ix : Nat → Code → List α → World → Prop)
    (hIb : ∀ bf pre W1 W2, w.heap.size + 2 ≤ bf → I bf pre W1 → W1.grownBy W2 (some bf) → I bf pre W2)
    (hIxb : ∀ bf c pre W1 W2, w.heap.size + 2 ≤ bf → Ix bf c pre W1 → W1.grownBy W2 (some bf) → Ix bf c pre W2)
    (hI : ∀ bf, OwnFrom w.heap.size (I bf)) (hIx : ∀ bf c, OwnFrom w.heap.size (Ix bf c)) (h0 : ∀ bf, w.heap.size + 2 ≤ bf → I bf [] w) (Ax : α → Act → World → Prop) (hAx : ∀ x a', OwnFrom w.heap.size (fun (_ : Unit) W => Ax x a' W))
    (hassign : ∀ (l bf : Nat) (pre : List α) (x : α) (W : World) (K : Act → World → Prop), w.heap.size + 2 ≤ bf → bf < W.heap.size → I bf pre W → (∀ a' W', KeepsFrom w.heap.size W W' → Kb n₀ bf W W' → bf < W'.heap.size → I bf pre W' → Ax x a' W' → K a' W') →
      assign.wpIn (Fence.wide.inRound l) (n - 1 - 1) P (Exit.then K (fun _ _ _ => False)) { tmps := (ps.zip (encs x)).foldl (fun t (p, v) => t.setIfInBounds p v) a.tmps, defers := [] } W)
    (hbody : ∀ (l bf : Nat) (pre : List α) (x : α) (a' : Act) (W : World), w.heap.size + 2 ≤ bf → bf < W.heap.size → I bf pre W → Ax x a' W → pre.length < N → body.wpIn (Fence.wide.inRound l) (n - 1 - 1) P (postB w.heap.size n₀ bf I Ix (pre ++ [x]) W) a' W)
    (hdone : ∀ (D bf : Nat) (xs : List α) (W : World), w.heap.size ≤ D → w.heap.size + 2 ≤ bf → S xs → I bf xs W → W.heap[D]? = some (.deferred (some [])) → Q .normal { a with defers := { target := .collected D, args := #[] } :: a.defers } W)
    (hstop : ∀ (D bf : Nat) (c : Code) (pre : List α) (W : World), w.heap.size ≤ D → Sp pre → Ix bf c pre W → W.heap[D]? = some (.deferred (some [])) → c.wpIn Fence.wide n P Q { a with defers := { target := .collected D, args := #[] } :: a.defers } W) :
    (Code.rangeFunc g ps assign body).wpIn Fence.wide n P Q a w := by
  refine wpIn_rangeFunc ?_
  intro fn hfn
  have hro : Fence.wide.round = none := rfl
  rw [hro]
  obtain ⟨rec, hrec⟩ : ∃ rec : LoopState → Option Code → Loop, rec = fun st pe => { state := st, pending := pe, fn, tmps := a.tmps, params := ps, assign, body, defers := w.heap.size } := ⟨_, rfl⟩
  obtain ⟨W1, hW1⟩ : ∃ W1, (w.alloc (.deferred (some []))).alloc (.loop (rec .ready none)) = W1 := ⟨_, rfl⟩
  have hz1 : W1.heap.size = w.heap.size + 2 := by rw [← hW1]; simp
  have hL1 : W1.heap[w.heap.size + 1]? = some (.loop (rec .ready none)) := by
    rw [← hW1]; have := World.alloc_heap_new (w.alloc (.deferred (some []))) (.loop (rec .ready none)); rwa [World.size_alloc] at this
  have hK1 : W1.heap[w.heap.size]? = some (.deferred (some [])) := by
    rw [← hW1]; exact (Below.heap_alloc _ _ _ (by simp)).trans (World.alloc_heap_new w _)
  have hI1 : ∀ bf, w.heap.size + 2 ≤ bf → I bf [] W1 := fun bf hbf => by rw [← hW1]; exact (hI bf).alloc _ ((hI bf).alloc _ (h0 bf hbf))
  have hb1 : Below w0.heap.size w0 W1 := by
    rw [← hW1]; exact hb0.trans ((((Below.refl _ w).alloc (Nat.le_refl _) _).alloc (by simp) _).mono hb0.size)
  refine ⟨w.heap.size + 1, [{ target := .collected w.heap.size, args := #[] }], W1, { target := .fn (.func gf) lb, args := #[.func (.yield (w.heap.size + 1)) #[] #[]] }, W1, gf,
    #[.func (.yield (w.heap.size + 1)) #[] #[]] ++ lb, W1, ?_, ?_, ?_, ?_, fun _ => h1, ?_⟩
  · rw [← hW1, hrec]; exact run_enterLoop_outer _ _ _ _ _
  · simp only [resolve, hg]
    simp [go_sem]
  · intro f' hf'; simp [Target.leads] at hf'; subst hf'; trivial
  · simp [invoke, go_sem, eg]
  · refine (hseq (w.heap.size + 1)
      (fun bf pre W => w.heap.size + 2 ≤ bf ∧ I bf pre W ∧ W.heap[w.heap.size + 1]? = some (.loop (rec .ready none)) ∧ W.heap[w.heap.size]? = some (.deferred (some [])))
      (fun bf pre W => w.heap.size + 2 ≤ bf ∧ ∃ c, Ix bf c pre W ∧ W.heap[w.heap.size + 1]? = some (.loop (rec .done (some c))) ∧ W.heap[w.heap.size]? = some (.deferred (some [])))
      W1 hb1
      (fun bf s A B hbf hs hg' => ⟨hs.1, hIb bf s A B hs.1 hs.2.1 hg', grownBy_other hg' hs.2.2.1 (by have := hs.1; omega), grownBy_other hg' hs.2.2.2 (by have := hs.1; omega)⟩)
      (fun bf s A B hbf hs hg' => by
        obtain ⟨hbf', c, hc, hl, hk⟩ := hs
        exact ⟨hbf', c, hIxb bf c s A B hbf' hc hg', grownBy_other hg' hl (by omega), grownBy_other hg' hk (by omega)⟩)
      ?_ (fun bf hbf => ⟨by omega, hI1 bf (by omega), hL1, hK1⟩)).mono ?_
    · rintro bf pre x W hbf0 hbfW ⟨hbf, hi, hl, hk⟩ hlen
      clear hbf0
      have hlt : w.heap.size + 1 < W.heap.size := (Array.getElem?_eq_some_iff.1 hl).1
      have hy := run_yield (P := P) (args := encs x) hl (by rw [hrec]; exact hps x)
      rw [hrec] at hy
      refine ⟨fn, _, assign, body, hy, roundIn_of_wpIn hfn (hassign _ bf pre x W _ hbf hbfW hi ?_)⟩
      clear hy
      intro a' Wa hkfa hkpa hbfa hia hax
      replace hl := hkfa.same _ _ (by omega) hl rfl
      replace hk := hkfa.same _ _ (Nat.le_refl _) hk rfl
      replace hlt : w.heap.size + 1 < Wa.heap.size := (Array.getElem?_eq_some_iff.1 hl).1
      replace hi := hia
      clear hia hbfW
      revert hkpa hkfa
      generalize W = Wb
      intro hkfa hkpa
      obtain ⟨W, rfl⟩ : ∃ W, W = Wa := ⟨_, rfl⟩
      refine ⟨_, run_beginRound hl (by rw [hrec]), ?_⟩
      have hKb : ∀ (W : World) (o o' : Obj), W.heap[w.heap.size + 1]? = some o → Kb n₀ bf W (W.putObj (w.heap.size + 1) o') := fun W o o' h =>
        ⟨(Below.refl n₀ W).grown (grownBy_putObj' W (w.heap.size + 1) o') (by have := (Array.getElem?_eq_some_iff.1 h).1; omega) (fun k e => by cases e; omega), World.putObj_heap_other (by omega)⟩
      have hl2 : (W.putObj (w.heap.size + 1) (.loop { rec .ready none with state := .busy })).heap[w.heap.size + 1]? = some (.loop { rec .ready none with state := .busy }) := World.putObj_heap_same hlt
      have hk2 : (W.putObj (w.heap.size + 1) (.loop { rec .ready none with state := .busy })).heap[w.heap.size]? = some (.deferred (some [])) := (World.putObj_heap_other (by omega)).trans hk
      have hw2 := hKb W _ (.loop { rec .ready none with state := .busy }) hl
      refine wpIn_mono (hbody _ bf pre x a' _ hbf (Nat.lt_of_lt_of_le hbfa hw2.1.size) ((hI bf).putObj _ hi (by omega) hl rfl) ((hAx x a').putObj (s := ()) _ hax (by omega) hl rfl) hlen) ?_
      have fin : ∀ (jump : Option Code) (W3 : World), KeepsFrom w.heap.size (W.putObj (w.heap.size + 1) (.loop { rec .ready none with state := .busy })) W3 →
          (Instr.endRound (w.heap.size + 1) jump).run P W3 = .ok (.bool jump.isNone) (W3.putObj (w.heap.size + 1) (.loop (rec (if jump.isNone then .ready else .done) jump))) ∧
          W3.heap[w.heap.size + 1]? = some (.loop { rec .ready none with state := .busy }) ∧
          (W3.putObj (w.heap.size + 1) (.loop (rec (if jump.isNone then .ready else .done) jump))).heap[w.heap.size + 1]? = some (.loop (rec (if jump.isNone then .ready else .done) jump)) ∧
          (W3.putObj (w.heap.size + 1) (.loop (rec (if jump.isNone then .ready else .done) jump))).heap[w.heap.size]? = some (.deferred (some [])) := fun jump W3 hk3 => by
        have hl3 := hk3.same _ _ (by omega) hl2 rfl
        have := run_endRound (P := P) jump hl3
        rw [hrec] at this ⊢
        exact ⟨this, by rw [hrec] at hl3; exact hl3, World.putObj_heap_same (Array.getElem?_eq_some_iff.1 hl3).1, (World.putObj_heap_other (by omega)).trans (hk3.same _ _ (Nat.le_refl _) hk2 rfl)⟩
      rintro e a3 W3 hp
      cases e with
      | normal =>
        obtain ⟨hk3, hkp3, hi3⟩ := hp
        obtain ⟨hr, hl3, hl4, hk4⟩ := fin none W3 hk3
        exact ⟨_, _, hr, .inl ⟨rfl, ⟨hbf, (hI bf).putObj _ hi3 (by omega) hl3 rfl, hl4, hk4⟩, hkpa.trans ((hw2.trans hkp3).trans (hKb _ _ _ hl3))⟩⟩
      | ret =>
        obtain ⟨hk3, hi3⟩ := hp
        obtain ⟨hr, hl3, hl4, hk4⟩ := fin (some .ret) W3 hk3
        exact ⟨_, _, hr, .inr ⟨rfl, hbf, .ret, (hIx bf _).putObj _ hi3 (by omega) hl3 rfl, hl4, hk4⟩⟩
      | exit id =>
        obtain ⟨hk3, hi3⟩ := hp
        obtain ⟨hr, hl3, hl4, hk4⟩ := fin (some (.exit id)) W3 hk3
        exact ⟨_, _, hr, .inr ⟨rfl, hbf, .exit id, (hIx bf _).putObj _ hi3 (by omega) hl3 rfl, hl4, hk4⟩⟩
      | goto t =>
        obtain ⟨hk3, hi3⟩ := hp
        obtain ⟨hr, hl3, hl4, hk4⟩ := fin (some (.goto t)) W3 hk3
        exact ⟨_, _, hr, .inr ⟨rfl, hbf, .goto t, (hIx bf _).putObj _ hi3 (by omega) hl3 rfl, hl4, hk4⟩⟩
      | panic ch => exact hp.elim
      | outgrown => exact hp.elim
    · rintro e W2 ⟨⟨v, rfl⟩, (⟨bf, xs, hS, hbf, hi, hl, hk⟩ | ⟨bf, pre, hSp, hbf, c, hi, hl, hk⟩)⟩
      · exact ⟨none, _, by have := run_endLoop (P := P) hl (by rw [hrec]; simp); rw [hrec] at this; exact this, hdone _ bf xs _ (Nat.le_refl _) hbf hS ((hI bf).putObj _ hi (by omega) hl rfl) ((World.putObj_heap_other (by omega)).trans hk)⟩
      · exact ⟨some c, _, by have := run_endLoop (P := P) hl (by rw [hrec]; simp); rw [hrec] at this; exact this, hstop _ bf c pre _ (Nat.le_refl _) hSp ((hIx bf c).putObj _ hi (by omega) hl rfl) ((World.putObj_heap_other (by omega)).trans hk)⟩
end Go.Proofs.YtaojogaakhidhaaDoor

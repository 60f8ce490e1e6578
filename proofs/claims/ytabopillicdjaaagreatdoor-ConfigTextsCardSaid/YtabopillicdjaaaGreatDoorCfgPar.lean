/- Package config: Parse (printed by gen/cfgparse.py). -/
import Derived.Test.YtabopillicdjaaaGreatDoorPrint
import Derived.Test.YtabopillicdjaaaGreatDoorCfgTx
import Derived.Test.YtabopillicdjaaaGreatDoorWGn
import Derived.Deep.RegionHeld3
namespace Go.Proofs.YtabopillicdjaaaGreatDoor
open Go.RowKit
open Wd (partsL cpE cpN okW inW okUpto inUpto numW cfgWord cfgLow cfgHigh intV intE decimalB decVal)

/-- A block and what it holds. -/
def Bx (b : Nat) (cs : Array Value) (T : TypeId) (w : World) : Prop := w.heap[b]? = some (.cells cs T (0, 0))
theorem Bx.new (w : World) (cs : Array Value) (T : TypeId) : Bx w.heap.size cs T (w.alloc (.cells cs T)) := heap_alloc_new _ _
theorem Bx.lt {b : Nat} {cs : Array Value} {T : TypeId} {w : World} (h : Bx b cs T w) : b < w.heap.size := (Array.getElem?_eq_some_iff.1 h).1
theorem Bx.then {b : Nat} {cs : Array Value} {T : TypeId} {w w' : World} (h : Bx b cs T w) (hb : Ow w w') : Bx b cs T w' := (hb.block b h.lt).trans h
theorem Bx.set {b : Nat} {cs : Array Value} {T : TypeId} {w : World} (h : Bx b cs T w) (i : Nat) (v : Value) : Bx b (cs.setIfInBounds i v) T (w.setCell ⟨b, i, none⟩ v) := heap_setCell_same w b i _ _ _ h
theorem Bx.other {b : Nat} {cs : Array Value} {T : TypeId} {w : World} (h : Bx b cs T w) {c : Nat} (hc : b ≠ c) (i : Nat) (v : Value) : Bx b cs T (w.setCell ⟨c, i, none⟩ v) := (heap_setCell_other w ⟨c, i, none⟩ b v hc).trans h
theorem Bx.at {b : Nat} {cs : Array Value} {T : TypeId} {w : World} (h : Bx b cs T w) {i : Nat} {u : Value} (hu : cs[i]? = some u) : w.cell? ⟨b, i, none⟩ = some u := by rw [cell_of_row _ _ i _ _ _ h]; exact hu
theorem Bx.z {b : Nat} {cs : Array Value} {T : TypeId} {w : World} (h : Bx b cs T w) (i : Nat) : w.frozen? ⟨b, i, none⟩ = false := frozen_of_row w b i cs T h
theorem Bx.alloc {b : Nat} {cs : Array Value} {T : TypeId} {w : World} (h : Bx b cs T w) (o : Obj) : Bx b cs T (w.alloc o) := h.then ((Ow.refl _).alloc _)
/-- A store into a block of the call's own. -/
theorem Ow.set {w W : World} (h : Ow w W) {b : Nat} (hb : w.heap.size ≤ b) (i : Nat) (v : Value) : Ow w (W.setCell ⟨b, i, none⟩ v) :=
  ⟨h.os, h.tape, h.output, by simpa using h.size, fun k hk => (heap_setCell_other W ⟨b, i, none⟩ k v (by simp only; omega)).trans (h.block k hk)⟩
theorem cint_is (s : ByteArray) (lo hi v m : Int) (hv : intV s.data.toList lo hi = v) (hm : intE s.data.toList lo hi = m) (w : World) (hs : s.size ≤ 9000) (hg : Gn w) (he : Ends lo hi) : Calls Tryz.prog 15 #[.string s, .int .i64 lo, .int .i64 hi] w fun e w' => e = .returned (.tuple #[.int .i64 v, .int .i64 m]) ∧ Ow w w' := by
  have := int_anyN s lo hi w hs hg he
  unfold IPost at this
  rwa [hv, hm] at this
def cfg0 : Array Value := #[.int .i64 0, .int .i64 0, .int .i64 0, .int .i64 0, .int .i64 0]
/-- What stands in a round of Parse's loop. -/
structure CP (w : World) (R h L B : Nat) (PL : List (List UInt8)) (cs : Array Value) (wr : World) : Prop where
  old : Ow w wr
  res : Bx R cfg0 45 wr
  cfg : Bx B cs 45 wr
  lim : Bx L limCells 96 wr
  hlt : h < wr.heap.size
  str : ∀ (i : Nat) x, PL[i]? = some x → wr.cell? ⟨h, i, none⟩ = some (.string ⟨x.toArray⟩)
  wB : w.heap.size ≤ B
  wR : w.heap.size ≤ R
  rB : R ≠ B
  lB : L ≠ B
  hB : h ≠ B
theorem CP.then {w : World} {R h L B : Nat} {PL : List (List UInt8)} {cs : Array Value} {W w1 : World} (k : CP w R h L B PL cs W) (hb : Ow W w1) : CP w R h L B PL cs w1 :=
  ⟨k.old.then hb, k.res.then hb, k.cfg.then hb, k.lim.then hb, Nat.lt_of_lt_of_le k.hlt hb.size, fun i x hx => (hb.cell (p := ⟨h, i, none⟩) k.hlt).trans (k.str i x hx), k.wB, k.wR, k.rB, k.lB, k.hB⟩
theorem CP.set {w : World} {R h L B : Nat} {PL : List (List UInt8)} {cs : Array Value} {W : World} (k : CP w R h L B PL cs W) (i : Nat) (v : Value) : CP w R h L B PL (cs.setIfInBounds i v) (W.setCell ⟨B, i, none⟩ v) :=
  ⟨k.old.set k.wB i v, k.res.other k.rB i v, k.cfg.set i v, k.lim.other k.lB i v, by simpa using k.hlt, fun j x hx => (World.cell?_setCell_other W ⟨B, i, none⟩ ⟨h, j, none⟩ v (by simp only [ne_eq, Addr.mk.injEq, not_and]; intro e; exact absurd e.symm k.hB)).trans (k.str j x hx), k.wB, k.wR, k.rB, k.lB, k.hB⟩
/-- Between the operations of a region: a string, and the ends of a limit. -/
structure Hp (W : World) (h i G : Nat) (q : ByteArray) (lo hi : Int) (w' : World) : Prop where
  ow : Ow W w'
  lh : h < W.heap.size
  lg : G < W.heap.size
  c0 : W.cell? ⟨h, i, none⟩ = some (.string q)
  c1 : W.cell? ⟨G, 1, none⟩ = some (.int .i64 lo)
  c2 : W.cell? ⟨G, 2, none⟩ = some (.int .i64 hi)
theorem Hp.all {W : World} {h i G : Nat} {q : ByteArray} {lo hi : Int} {w' : World} (k : Hp W h i G q lo hi w') : Hp W h i G q lo hi w' ∧ w'.cell? ⟨h, i, none⟩ = some (.string q) ∧ w'.cell? ⟨G, 1, none⟩ = some (.int .i64 lo) ∧ w'.cell? ⟨G, 2, none⟩ = some (.int .i64 hi) :=
  ⟨k, (k.ow.cell (p := ⟨h, i, none⟩) k.lh).trans k.c0, (k.ow.cell (p := ⟨G, 1, none⟩) k.lg).trans k.c1, (k.ow.cell (p := ⟨G, 2, none⟩) k.lg).trans k.c2⟩
theorem Hp.drew {W : World} {h i G : Nat} {q : ByteArray} {lo hi : Int} {w' : World} {r : Prop} (k : Hp W h i G q lo hi w' ∧ r) : Hp W h i G q lo hi w'.drew := ⟨k.1.ow.drew, k.1.lh, k.1.lg, k.1.c0, k.1.c1, k.1.c2⟩
theorem Hp.after {W : World} {h i G : Nat} {q : ByteArray} {lo hi : Int} {w' w1 : World} {r : Prop} (hb : Ow w' w1) (k : Hp W h i G q lo hi w' ∧ r) : Hp W h i G q lo hi w1 := ⟨k.1.ow.then hb, k.1.lh, k.1.lg, k.1.c0, k.1.c1, k.1.c2⟩
theorem Hp.fin {W : World} {h i G : Nat} {q : ByteArray} {lo hi : Int} {w' : World} {r : Prop} (k : Hp W h i G q lo hi w' ∧ r) : Ow W w' := k.1.ow
theorem ct_word {L : List (List UInt8)} {k n : Nat} (hk : k < n) (h : L.getD (2 * k) [] ≠ cfgWord k) : okUpto L n = false := by
  refine Wd.ok_bad ?_ hk
  unfold okW
  rw [show (L.getD (2 * k) [] == cfgWord k) = false by rw [beq_eq_false_iff_ne]; exact h]
  rfl
theorem ct_dec {L : List (List UInt8)} {k n : Nat} (hk : k < n) (h : decimalB (L.getD (2 * k + 1) []) = false) : okUpto L n = false := by
  refine Wd.ok_bad ?_ hk
  unfold okW
  rw [h, Bool.and_false]
theorem ct_six {t : List UInt8} (h : okUpto (partsL 32 t) 5 = false) : cpE t = 6 ∧ ∀ i, cpN t i = 0 := by
  have e : cpE t = 6 := by unfold cpE; split; rfl; rw [if_neg (by rw [h]; decide)]
  exact ⟨e, fun i => by unfold cpN; rw [if_neg (by rw [e]; decide)]⟩
theorem ct_len {t : List UInt8} (h : (partsL 32 t).length ≠ 10) : cpE t = 6 ∧ ∀ i, cpN t i = 0 := by
  have e : cpE t = 6 := by unfold cpE; rw [if_pos h]
  exact ⟨e, fun i => by unfold cpN; rw [if_neg (by rw [e]; decide)]⟩
theorem ct_out {t : List UInt8} (hl : (partsL 32 t).length = 10) (h : okUpto (partsL 32 t) 5 = true) (hi : inUpto (partsL 32 t) 5 = false) : cpE t = 7 ∧ ∀ i, cpN t i = 0 := by
  have e : cpE t = 7 := by unfold cpE; rw [if_neg (by rw [hl]; decide), if_pos h, if_neg (by rw [hi]; decide)]
  exact ⟨e, fun i => by unfold cpN; rw [if_neg (by rw [e]; decide)]⟩
theorem ct_in {t : List UInt8} (hl : (partsL 32 t).length = 10) (h : okUpto (partsL 32 t) 5 = true) (hi : inUpto (partsL 32 t) 5 = true) : cpE t = 0 ∧ ∀ i, cpN t i = numW (partsL 32 t) i := by
  have e : cpE t = 0 := by unfold cpE; rw [if_neg (by rw [hl]; decide), if_pos h, if_pos hi]
  exact ⟨e, fun i => by unfold cpN; rw [if_pos e]⟩
theorem max_in {L : List (List UInt8)} {k : Nat} {m0 m : Int} (h0 : Hid (m0 = if inUpto L k = true then 0 else 7)) (h : m = if inW L k = true then 0 else 7) : Hid (max m0 m = if inUpto L (k + 1) = true then 0 else 7) := by
  rw [Hid, h0.out, h, inUpto]
  cases inUpto L k <;> cases inW L k <;> decide
/-- The cells behind k rounds. -/
def ctCells (L : List (List UInt8)) (k : Nat) : Array Value :=
  let f := fun i => Value.int .i64 (if i < k then intV (L.getD (2 * i + 1) []) (cfgLow i) (cfgHigh i) else 0)
  #[f 1, f 0, f 2, f 3, f 4]
theorem ct_done {t : List UInt8} {L : List (List UInt8)} (h : cpE t = 0) (hL : partsL 32 t = L) : ctCells L 5 = #[.int .i64 (cpN t 1), .int .i64 (cpN t 0), .int .i64 (cpN t 2), .int .i64 (cpN t 3), .int .i64 (cpN t 4)] := by
  subst hL
  obtain ⟨_, ho, hi⟩ := Wd.cp_ok h
  have e : ∀ i, i < 5 → intV ((partsL 32 t).getD (2 * i + 1) []) (cfgLow i) (cfgHigh i) = cpN t i := fun i hi5 => by
    unfold cpN
    rw [if_pos h]
    unfold intV
    rw [if_pos ⟨(Wd.ok_at hi5 ho).2, Wd.in_at hi5 hi⟩]
    rfl
  simp only [ctCells, e 0 (by omega), e 1 (by omega), e 2 (by omega), e 3 (by omega), e 4 (by omega), Nat.reduceLT, if_true, Nat.zero_lt_succ]
theorem parts_size {t : ByteArray} {x : List UInt8} (h : x ∈ partsL 32 t.data.toList) : x.length ≤ t.size := by
  rw [← ba_len]
  generalize t.data.toList = l at h
  induction l generalizing x with
  | nil => simp [partsL] at h; subst h; simp
  | cons c r ih =>
    rw [partsL] at h
    split at h
    · rcases List.mem_cons.1 h with rfl | h
      · simp
      · have := ih h; simp; omega
    · split at h
      · simp at h; subst h; simp
      · rename_i p ps e
        rcases List.mem_cons.1 h with rfl | h
        · have := ih (x := p) (by rw [e]; simp); simp; omega
        · have := ih (x := x) (by rw [e]; simp [h]); simp; omega
theorem getD_at {α : Type} {L : List α} {i : Nat} {d : α} (h : i < L.length) : L[i]? = some (L.getD i d) ∧ L.getD i d ∈ L := by
  have e : L[i]? = some L[i] := List.getElem?_eq_getElem h
  have e2 : L.getD i d = L[i] := by simp [List.getD, e]
  rw [e2]
  exact ⟨e, List.getElem_mem h⟩
def CtPost (s : ByteArray) (w : World) (e : Ending) (w' : World) : Prop :=
  e = .returned (.tuple #[.agg #[.int .i64 (cpN s.data.toList 1), .int .i64 (cpN s.data.toList 0), .int .i64 (cpN s.data.toList 2), .int .i64 (cpN s.data.toList 3), .int .i64 (cpN s.data.toList 4)], .int .i64 (cpE s.data.toList)]) ∧ Ow w w'
/-- The result, read out of its block. -/
theorem cfg_ret {s : ByteArray} {w W : World} {u : Array Value} {R : Nat} {c0 c1 c2 c3 c4 m : Int} (hR : Bx R #[.int .i64 c0, .int .i64 c1, .int .i64 c2, .int .i64 c3, .int .i64 c4] 45 W)
    (h2 : u[2]? = some (.pointer (some ⟨R, 0, none⟩))) (h3 : u[3]? = some (.int .i64 m)) (hq : CtPost s w (.returned (.tuple #[.agg #[.int .i64 c0, .int .i64 c1, .int .i64 c2, .int .i64 c3, .int .i64 c4], .int .i64 m])) W) :
    bodyPost Tryz.prog Tryz.f20 (CtPost s w) Exit.ret { tmps := u, defers := [] } W := by
  have c0 := hR.at (i := 0) rfl
  have c1 := hR.at (i := 1) rfl
  have c2 := hR.at (i := 2) rfl
  have c3 := hR.at (i := 3) rfl
  have c4 := hR.at (i := 4) rfl
  refine bodyPost_ret (v := .tuple #[.agg #[.int .i64 _, .int .i64 _, .int .i64 _, .int .i64 _, .int .i64 _], .int .i64 m]) ?_ rfl hq
  simp [results, Tryz.results20, go_sem, h2, h3, c0, c1, c2, c3, c4]

set_option maxRecDepth 100000 in
set_option maxHeartbeats 8000000 in
theorem cparse_any (s : ByteArray) (w : World) (hs : s.size ≤ 9000) (hg : Gn w) :
    Calls Tryz.prog 20 #[.string s] w (CtPost s w) := by
  obtain ⟨PL, hPL⟩ : ∃ PL, partsL 32 s.data.toList = PL := ⟨_, rfl⟩
  obtain ⟨n, hn⟩ : ∃ n, PL.length = n := ⟨_, rfl⟩
  have HPL := Lib.hid hPL
  have HG := Lib.hid hg
  have HSz : Hid (∀ x ∈ PL, x.length ≤ 9000) := fun x hx => by have := parts_size (t := s) (by rw [hPL]; exact hx); omega
  have HA : Hid (Ow w (w.alloc (.cells cfg0 45))) := (Ow.refl _).alloc _
  have HX : Hid (Bx w.heap.size cfg0 45 (w.alloc (.cells cfg0 45))) := Bx.new _ _ _
  clear hPL hg
  by_cases h10 : n = 10
  · subst h10
    have HN := Lib.hid hn
    clear hn
    go_enter Tryz.func20, Tryz.ntmps20
    go_wp2_with fail
    (go_at_call 34; refine (split_isN s 32 PL HPL.out 10 HN.out _ (by omega) (HG.out.below HA.out)).mono ?_; rintro e w1 ⟨rfl, hst, hb1⟩)
    have O1 := Lib.hid (HA.out.then hb1)
    have X1 := Lib.hid (HX.out.then hb1)
    have hsz1 : w.heap.size + 1 ≤ w1.heap.size := by have := hb1.size; simpa using this
    obtain ⟨hH, hlt, hcells⟩ : ∃ hH : w.heap.size + 1 < w1.heap.size, True ∧ ∀ (i : Nat) x, PL[i]? = some x → w1.cell? ⟨w.heap.size + 1, i, none⟩ = some (.string ⟨x.toArray⟩) := by
      rcases hst with ⟨e, _⟩ | ⟨_, g, off, cap, hv, hlt, hc⟩
      · have := HN.out; rw [e] at this; cases this
      · simp only [World.size_alloc, Value.slice.injEq, Option.some.injEq, Addr.mk.injEq, and_true] at hv
        obtain ⟨⟨rfl, rfl⟩, _⟩ := hv
        exact ⟨hlt, trivial, fun i x hx => by have := hc i x hx; rwa [Nat.zero_add] at this⟩
    have HC := Lib.hid hcells
    clear hst hb1 hcells hlt
    go_wp2_with (go_at_call 48; refine (limits_any _).mono ?_; rintro e w' ⟨rfl, rfl⟩)
    have HCP : Hid (CP w w.heap.size (w.heap.size + 1) w1.heap.size (w1.heap.size + 1) PL cfg0 ((w1.alloc (.cells limCells 96)).alloc (.cells #[.int .i64 0, .int .i64 0, .int .i64 0, .int .i64 0, .int .i64 0] 45))) := by
      refine ⟨(O1.out.alloc _).alloc _, (X1.out.alloc _).alloc _, ?_, (Bx.new _ _ _).alloc _, by simp; omega, fun i x hx => ?_, by omega, Nat.le_refl _, by omega, by omega, by omega⟩
      · have := Bx.new (w1.alloc (.cells limCells 96)) cfg0 45
        rw [World.size_alloc] at this
        exact this
      · rw [World.cell?_alloc_lt _ _ _ (by simp; omega), World.cell?_alloc_lt _ _ _ (by simpa using hH)]
        exact HC.out i x hx
    go_loopw [7, 25] (fun la i wr => ∃ k : Nat, k ≤ 5 ∧ i = .int .i64 k ∧ (∃ m0 : Int, la = .int .i64 m0 ∧ Hid (m0 = if inUpto PL k then 0 else 7)) ∧ okUpto PL k = true ∧ CP w w.heap.size (w.heap.size + 1) w1.heap.size (w1.heap.size + 1) PL (ctCells PL k) wr) (fun _ i _ => 5 - (intOf i).toNat)
    case atStart => exact ⟨0, by omega, rfl, ⟨0, rfl, rfl⟩, rfl, by simpa [ctCells, cfg0] using HCP.out⟩
    case round =>
      obtain ⟨k, hk, rfl, ⟨m0, rfl, HM0⟩, hok, hcp⟩ := hrel
      have HOk := Lib.hid hok
      have HCp := Lib.hid hcp
      clear hok hcp HCP
      by_cases h5 : k = 5
      · subst h5
        cases hin : inUpto PL 5 with
        | false =>
          obtain rfl : m0 = 7 := by have := HM0.out; rw [hin] at this; exact this
          have HF := Lib.hid (ct_out (t := s.data.toList) (by rw [HPL.out]; exact HN.out) (by rw [HPL.out]; exact HOk.out) (by rw [HPL.out]; exact hin))
          have C2 := Lib.hid (HCp.out.then ((Ow.refl _).alloc (.cells #[.int .i64 0, .int .i64 0, .int .i64 0, .int .i64 0, .int .i64 0] 45)))
          clear hin
          have x0 : (wr.alloc (.cells #[.int .i64 0, .int .i64 0, .int .i64 0, .int .i64 0, .int .i64 0] 45)).cell? ⟨w.heap.size, 0, none⟩ = some (.int .i64 0) := C2.out.res.at (i := 0) rfl
          have y0 : (wr.alloc (.cells #[.int .i64 0, .int .i64 0, .int .i64 0, .int .i64 0, .int .i64 0] 45)).frozen? ⟨w.heap.size, 0, none⟩ = false := C2.out.res.z 0
          have x1 : (wr.alloc (.cells #[.int .i64 0, .int .i64 0, .int .i64 0, .int .i64 0, .int .i64 0] 45)).cell? ⟨w.heap.size, 1, none⟩ = some (.int .i64 0) := C2.out.res.at (i := 1) rfl
          have y1 : (wr.alloc (.cells #[.int .i64 0, .int .i64 0, .int .i64 0, .int .i64 0, .int .i64 0] 45)).frozen? ⟨w.heap.size, 1, none⟩ = false := C2.out.res.z 1
          have x2 : (wr.alloc (.cells #[.int .i64 0, .int .i64 0, .int .i64 0, .int .i64 0, .int .i64 0] 45)).cell? ⟨w.heap.size, 2, none⟩ = some (.int .i64 0) := C2.out.res.at (i := 2) rfl
          have y2 : (wr.alloc (.cells #[.int .i64 0, .int .i64 0, .int .i64 0, .int .i64 0, .int .i64 0] 45)).frozen? ⟨w.heap.size, 2, none⟩ = false := C2.out.res.z 2
          have x3 : (wr.alloc (.cells #[.int .i64 0, .int .i64 0, .int .i64 0, .int .i64 0, .int .i64 0] 45)).cell? ⟨w.heap.size, 3, none⟩ = some (.int .i64 0) := C2.out.res.at (i := 3) rfl
          have y3 : (wr.alloc (.cells #[.int .i64 0, .int .i64 0, .int .i64 0, .int .i64 0, .int .i64 0] 45)).frozen? ⟨w.heap.size, 3, none⟩ = false := C2.out.res.z 3
          have x4 : (wr.alloc (.cells #[.int .i64 0, .int .i64 0, .int .i64 0, .int .i64 0, .int .i64 0] 45)).cell? ⟨w.heap.size, 4, none⟩ = some (.int .i64 0) := C2.out.res.at (i := 4) rfl
          have y4 : (wr.alloc (.cells #[.int .i64 0, .int .i64 0, .int .i64 0, .int .i64 0, .int .i64 0] 45)).frozen? ⟨w.heap.size, 4, none⟩ = false := C2.out.res.z 4
          go_wp2
          have BR : Hid (Bx w.heap.size cfg0 45 (((((((wr.alloc (.cells #[.int .i64 0, .int .i64 0, .int .i64 0, .int .i64 0, .int .i64 0] 45))).setCell ⟨w.heap.size, 0, none⟩ (.int .i64 0)).setCell ⟨w.heap.size, 1, none⟩ (.int .i64 0)).setCell ⟨w.heap.size, 2, none⟩ (.int .i64 0)).setCell ⟨w.heap.size, 3, none⟩ (.int .i64 0)).setCell ⟨w.heap.size, 4, none⟩ (.int .i64 0))) := (((((C2.out.res.set 0 _).set 1 _).set 2 _).set 3 _).set 4 _)
          have OR : Hid (Ow w (((((((wr.alloc (.cells #[.int .i64 0, .int .i64 0, .int .i64 0, .int .i64 0, .int .i64 0] 45))).setCell ⟨w.heap.size, 0, none⟩ (.int .i64 0)).setCell ⟨w.heap.size, 1, none⟩ (.int .i64 0)).setCell ⟨w.heap.size, 2, none⟩ (.int .i64 0)).setCell ⟨w.heap.size, 3, none⟩ (.int .i64 0)).setCell ⟨w.heap.size, 4, none⟩ (.int .i64 0))) := (((((C2.out.old.set (Nat.le_refl _) 0 _).set (Nat.le_refl _) 1 _).set (Nat.le_refl _) 2 _).set (Nat.le_refl _) 3 _).set (Nat.le_refl _) 4 _)
          generalize hW9 : ((((((wr.alloc (.cells #[.int .i64 0, .int .i64 0, .int .i64 0, .int .i64 0, .int .i64 0] 45))).setCell ⟨w.heap.size, 0, none⟩ (.int .i64 0)).setCell ⟨w.heap.size, 1, none⟩ (.int .i64 0)).setCell ⟨w.heap.size, 2, none⟩ (.int .i64 0)).setCell ⟨w.heap.size, 3, none⟩ (.int .i64 0)).setCell ⟨w.heap.size, 4, none⟩ (.int .i64 0) = W9 at BR OR ⊢
          exact cfg_ret BR.out rfl rfl (by unfold CtPost; rw [HF.out.1, HF.out.2, HF.out.2, HF.out.2, HF.out.2, HF.out.2]; exact ⟨rfl, OR.out⟩)
        | true =>
          obtain rfl : m0 = 0 := by have := HM0.out; rw [hin] at this; exact this
          have HF := Lib.hid (ct_in (t := s.data.toList) (by rw [HPL.out]; exact HN.out) (by rw [HPL.out]; exact HOk.out) (by rw [HPL.out]; exact hin))
          have C2 := Lib.hid (HCp.out.then ((Ow.refl _).alloc (.cells #[.int .i64 0, .int .i64 0, .int .i64 0, .int .i64 0, .int .i64 0] 45)))
          have HB : Hid (Bx (w1.heap.size + 1) #[.int .i64 (cpN s.data.toList 1), .int .i64 (cpN s.data.toList 0), .int .i64 (cpN s.data.toList 2), .int .i64 (cpN s.data.toList 3), .int .i64 (cpN s.data.toList 4)] 45 (wr.alloc (.cells #[.int .i64 0, .int .i64 0, .int .i64 0, .int .i64 0, .int .i64 0] 45))) := by
            have h := C2.out.cfg
            rwa [ct_done HF.out.1 HPL.out] at h
          have hpos : 7 ≤ cpN s.data.toList 0 := by have := Wd.cp_cfg HF.out.1; simp only [okC, decide_eq_true_eq] at this; omega
          clear hin
          have x0 : (wr.alloc (.cells #[.int .i64 0, .int .i64 0, .int .i64 0, .int .i64 0, .int .i64 0] 45)).cell? ⟨w.heap.size, 0, none⟩ = some (.int .i64 0) := C2.out.res.at (i := 0) rfl
          have y0 : (wr.alloc (.cells #[.int .i64 0, .int .i64 0, .int .i64 0, .int .i64 0, .int .i64 0] 45)).frozen? ⟨w.heap.size, 0, none⟩ = false := C2.out.res.z 0
          have x1 : (wr.alloc (.cells #[.int .i64 0, .int .i64 0, .int .i64 0, .int .i64 0, .int .i64 0] 45)).cell? ⟨w.heap.size, 1, none⟩ = some (.int .i64 0) := C2.out.res.at (i := 1) rfl
          have y1 : (wr.alloc (.cells #[.int .i64 0, .int .i64 0, .int .i64 0, .int .i64 0, .int .i64 0] 45)).frozen? ⟨w.heap.size, 1, none⟩ = false := C2.out.res.z 1
          have x2 : (wr.alloc (.cells #[.int .i64 0, .int .i64 0, .int .i64 0, .int .i64 0, .int .i64 0] 45)).cell? ⟨w.heap.size, 2, none⟩ = some (.int .i64 0) := C2.out.res.at (i := 2) rfl
          have y2 : (wr.alloc (.cells #[.int .i64 0, .int .i64 0, .int .i64 0, .int .i64 0, .int .i64 0] 45)).frozen? ⟨w.heap.size, 2, none⟩ = false := C2.out.res.z 2
          have x3 : (wr.alloc (.cells #[.int .i64 0, .int .i64 0, .int .i64 0, .int .i64 0, .int .i64 0] 45)).cell? ⟨w.heap.size, 3, none⟩ = some (.int .i64 0) := C2.out.res.at (i := 3) rfl
          have y3 : (wr.alloc (.cells #[.int .i64 0, .int .i64 0, .int .i64 0, .int .i64 0, .int .i64 0] 45)).frozen? ⟨w.heap.size, 3, none⟩ = false := C2.out.res.z 3
          have x4 : (wr.alloc (.cells #[.int .i64 0, .int .i64 0, .int .i64 0, .int .i64 0, .int .i64 0] 45)).cell? ⟨w.heap.size, 4, none⟩ = some (.int .i64 0) := C2.out.res.at (i := 4) rfl
          have y4 : (wr.alloc (.cells #[.int .i64 0, .int .i64 0, .int .i64 0, .int .i64 0, .int .i64 0] 45)).frozen? ⟨w.heap.size, 4, none⟩ = false := C2.out.res.z 4
          have b0 := HB.out.at (i := 0) rfl
          have b1 := HB.out.at (i := 1) rfl
          have b2 := HB.out.at (i := 2) rfl
          have b3 := HB.out.at (i := 3) rfl
          have b4 := HB.out.at (i := 4) rfl
          go_wp2
          have BR : Hid (Bx w.heap.size #[.int .i64 (cpN s.data.toList 1), .int .i64 (cpN s.data.toList 0), .int .i64 (cpN s.data.toList 2), .int .i64 (cpN s.data.toList 3), .int .i64 (cpN s.data.toList 4)] 45 (((((((wr.alloc (.cells #[.int .i64 0, .int .i64 0, .int .i64 0, .int .i64 0, .int .i64 0] 45))).setCell ⟨w.heap.size, 0, none⟩ (.int .i64 (cpN s.data.toList 1))).setCell ⟨w.heap.size, 1, none⟩ (.int .i64 (cpN s.data.toList 0))).setCell ⟨w.heap.size, 2, none⟩ (.int .i64 (cpN s.data.toList 2))).setCell ⟨w.heap.size, 3, none⟩ (.int .i64 (cpN s.data.toList 3))).setCell ⟨w.heap.size, 4, none⟩ (.int .i64 (cpN s.data.toList 4)))) := (((((C2.out.res.set 0 _).set 1 _).set 2 _).set 3 _).set 4 _)
          have OR : Hid (Ow w (((((((wr.alloc (.cells #[.int .i64 0, .int .i64 0, .int .i64 0, .int .i64 0, .int .i64 0] 45))).setCell ⟨w.heap.size, 0, none⟩ (.int .i64 (cpN s.data.toList 1))).setCell ⟨w.heap.size, 1, none⟩ (.int .i64 (cpN s.data.toList 0))).setCell ⟨w.heap.size, 2, none⟩ (.int .i64 (cpN s.data.toList 2))).setCell ⟨w.heap.size, 3, none⟩ (.int .i64 (cpN s.data.toList 3))).setCell ⟨w.heap.size, 4, none⟩ (.int .i64 (cpN s.data.toList 4)))) := (((((C2.out.old.set (Nat.le_refl _) 0 _).set (Nat.le_refl _) 1 _).set (Nat.le_refl _) 2 _).set (Nat.le_refl _) 3 _).set (Nat.le_refl _) 4 _)
          generalize hW9 : ((((((wr.alloc (.cells #[.int .i64 0, .int .i64 0, .int .i64 0, .int .i64 0, .int .i64 0] 45))).setCell ⟨w.heap.size, 0, none⟩ (.int .i64 (cpN s.data.toList 1))).setCell ⟨w.heap.size, 1, none⟩ (.int .i64 (cpN s.data.toList 0))).setCell ⟨w.heap.size, 2, none⟩ (.int .i64 (cpN s.data.toList 2))).setCell ⟨w.heap.size, 3, none⟩ (.int .i64 (cpN s.data.toList 3))).setCell ⟨w.heap.size, 4, none⟩ (.int .i64 (cpN s.data.toList 4)) = W9 at BR OR ⊢
          exact cfg_ret BR.out rfl rfl (by unfold CtPost; rw [HF.out.1]; exact ⟨rfl, OR.out⟩)
      · rcases (show k = 0 ∨ k = 1 ∨ k = 2 ∨ k = 3 ∨ k = 4 by omega) with rfl | rfl | rfl | rfl | rfl
        · obtain ⟨p0, hp0⟩ : ∃ p : ByteArray, p.data.toList = PL.getD 0 [] := ⟨⟨(PL.getD 0 []).toArray⟩, rfl⟩
          obtain ⟨p1, hp1⟩ : ∃ p : ByteArray, p.data.toList = PL.getD 1 [] := ⟨⟨(PL.getD 1 []).toArray⟩, rfl⟩
          have g0 := getD_at (L := PL) (i := 0) (d := []) (by rw [HN.out]; omega)
          have g1 := getD_at (L := PL) (i := 1) (d := []) (by rw [HN.out]; omega)
          have s0 : wr.cell? ⟨w.heap.size + 1, 0, none⟩ = some (.string p0) := by rw [HCp.out.str 0 _ g0.1, ← hp0, ba_mk]
          have s1 : wr.cell? ⟨w.heap.size + 1, 1, none⟩ = some (.string p1) := by rw [HCp.out.str 1 _ g1.1, ← hp1, ba_mk]
          have z1 : p1.size ≤ 9000 := by rw [← ba_len, hp1]; exact HSz.out _ g1.2
          have l0 : wr.cell? ⟨w1.heap.size, 0, none⟩ = some (.string ⟨#[99, 97, 114, 115]⟩) := HCp.out.lim.at (i := 0) rfl
          have l1 : wr.cell? ⟨w1.heap.size, 1, none⟩ = some (.int .i64 7) := HCp.out.lim.at (i := 1) rfl
          have l2 : wr.cell? ⟨w1.heap.size, 2, none⟩ = some (.int .i64 24) := HCp.out.lim.at (i := 2) rfl
          have l3 : wr.cell? ⟨w1.heap.size, 3, none⟩ = some (.func (.func 73) #[] #[]) := HCp.out.lim.at (i := 3) rfl
          obtain ⟨v, hv⟩ : ∃ v, intV (PL.getD 1 []) 7 24 = v := ⟨_, rfl⟩
          obtain ⟨m, hm⟩ : ∃ m, intE (PL.getD 1 []) 7 24 = m := ⟨_, rfl⟩
          have HP0 := Lib.hid hp0
          have HP1 := Lib.hid hp1
          have HV : Hid (intV p1.data.toList 7 24 = v) := by rw [Hid, hp1, hv]
          have HM : Hid (intE p1.data.toList 7 24 = m) := by rw [Hid, hp1, hm]
          clear hp0 hp1 hv hm g0 g1 hk h5
          have q1 : IntKind.i64.wrap 0 = 0 := by decide
          have q2 : IntKind.i64.wrap (0 + 1) = 1 := by decide
          have q3 : IntKind.i64.wrap 1 = 1 := by decide
          go_wp2_with fail
          have HBG : Hid (Bx wr.heap.size #[.string ⟨#[99, 97, 114, 115]⟩, .int .i64 7, .int .i64 24, .func (.func 73) #[] #[]] 96 (wr.alloc (.cells #[.string ⟨#[99, 97, 114, 115]⟩, .int .i64 7, .int .i64 24, .func (.func 73) #[] #[]] 96))) := Bx.new _ _ _
          have HCP1 : Hid (CP w w.heap.size (w.heap.size + 1) w1.heap.size (w1.heap.size + 1) PL (ctCells PL 0) (wr.alloc (.cells #[.string ⟨#[99, 97, 114, 115]⟩, .int .i64 7, .int .i64 24, .func (.func 73) #[] #[]] 96))) := HCp.out.then ((Ow.refl _).alloc _)
          have t1 : (wr.alloc (.cells #[.string ⟨#[99, 97, 114, 115]⟩, .int .i64 7, .int .i64 24, .func (.func 73) #[] #[]] 96)).cell? ⟨w.heap.size + 1, 1, none⟩ = some (.string p1) := (World.cell?_alloc_lt _ _ _ HCp.out.hlt).trans s1
          have t0 : (wr.alloc (.cells #[.string ⟨#[99, 97, 114, 115]⟩, .int .i64 7, .int .i64 24, .func (.func 73) #[] #[]] 96)).cell? ⟨w.heap.size + 1, 0, none⟩ = some (.string p0) := (World.cell?_alloc_lt _ _ _ HCp.out.hlt).trans s0
          clear l0 l1 l2 l3 s0 s1
          generalize hG : wr.heap.size = G at HBG ⊢
          generalize hW1 : wr.alloc (.cells #[.string ⟨#[99, 97, 114, 115]⟩, .int .i64 7, .int .i64 24, .func (.func 73) #[] #[]] 96) = W1 at HBG HCP1 t0 t1 ⊢
          have HT0 := Lib.hid t0
          have HG1 := Lib.hid (HG.out.below HCP1.out.old)
          have hh := Hp.all (show Hp W1 (w.heap.size + 1) 1 G p1 7 24 W1 from ⟨Ow.refl _, HCP1.out.hlt, HBG.out.lt, t1, HBG.out.at (i := 1) rfl, HBG.out.at (i := 2) rfl⟩)
          clear t0 t1
          go_region_held3 (fun w' => Hp W1 (w.heap.size + 1) 1 G p1 7 24 w' ∧ w'.cell? ⟨w.heap.size + 1, 1, none⟩ = some (.string p1) ∧ w'.cell? ⟨G, 1, none⟩ = some (.int .i64 7) ∧ w'.cell? ⟨G, 2, none⟩ = some (.int .i64 24)) (first | assumption | exact Hp.all (by assumption) | exact (Hp.drew (by assumption)).all | exact (Hp.after (by assumption) (by assumption)).all) (first | (go_at_call 15; refine (cint_is p1 7 24 v m HV.out HM.out _ z1 (HG1.out.below (Hp.fin (by assumption))) ⟨by decide, by decide⟩).mono ?_; rintro e w2 ⟨rfl, hb2⟩))
          have O2 : Hid (Ow W1 w2) := Hp.fin (by assumption)
          have C2 := Lib.hid (HCP1.out.then O2.out)
          have r0 : w2.cell? ⟨w.heap.size + 1, 0, none⟩ = some (.string p0) := (O2.out.cell (p := ⟨w.heap.size + 1, 0, none⟩) HCP1.out.hlt).trans HT0.out
          have r1 : w2.cell? ⟨G, 0, none⟩ = some (.string ⟨#[99, 97, 114, 115]⟩) := (HBG.out.then O2.out).at (i := 0) rfl
          have r2 : w2.cell? ⟨G, 3, none⟩ = some (.func (.func 73) #[] #[]) := (HBG.out.then O2.out).at (i := 3) rfl
          have x0 : w2.cell? ⟨w.heap.size, 0, none⟩ = some (.int .i64 0) := C2.out.res.at (i := 0) rfl
          have x1 : w2.cell? ⟨w.heap.size, 1, none⟩ = some (.int .i64 0) := C2.out.res.at (i := 1) rfl
          have x2 : w2.cell? ⟨w.heap.size, 2, none⟩ = some (.int .i64 0) := C2.out.res.at (i := 2) rfl
          have x3 : w2.cell? ⟨w.heap.size, 3, none⟩ = some (.int .i64 0) := C2.out.res.at (i := 3) rfl
          have x4 : w2.cell? ⟨w.heap.size, 4, none⟩ = some (.int .i64 0) := C2.out.res.at (i := 4) rfl
          have y0 := C2.out.res.z 0
          have y1 := C2.out.res.z 1
          have y2 := C2.out.res.z 2
          have y3 := C2.out.res.z 3
          have y4 := C2.out.res.z 4
          clear hh hb2
          go_wp2_with fail
          by_cases hw0 : PL.getD 0 [] = cfgWord 0
          · obtain rfl : p0 = ⟨#[99, 97, 114, 115]⟩ := ba_ext (by rw [HP0.out, hw0]; rfl)
            by_cases hd : decimalB (PL.getD 1 []) = true
            · have HOk1 : Hid (okUpto PL 1 = true) := by
                show (okUpto PL 0 && (PL.getD 0 [] == cfgWord 0 && decimalB (PL.getD 1 []))) = true
                rw [HOk.out, hw0, hd, beq_self_eq_true]; rfl
              have HMm : Hid (m = if inW PL 0 then 0 else 7) := by
                rw [Hid, ← HM.out, HP1.out, intE, if_pos hd]
                simp only [inW, numW, cfgLow, cfgHigh, Nat.reduceMul, Nat.reduceAdd, decide_eq_true_eq]
              have em : (m == 6) = false := by rw [beq_eq_false_iff_ne, HMm.out]; split <;> decide
              clear hw0 hd
              go_quiet (fail)
              have O3 := Lib.hid (Ow.drewN (C2.out.old) nq)
              have C3 := Lib.hid (C2.out.then ((Ow.refl _).drewN nq))
              generalize hW3 : w2.drewN nq = w3 at C3 O3 ⊢
              have r3 : w3.cell? ⟨G, 3, none⟩ = some (.func (.func 73) #[] #[]) := by rw [← hW3]; exact r2
              have b0 : w3.cell? ⟨w1.heap.size + 1, 1, none⟩ = some (.int .i64 0) := C3.out.cfg.at (i := 1) rfl
              have z0 := C3.out.cfg.z 1
              clear r0 r1 r2 x0 x1 x2 x3 x4 y0 y1 y2 y3 y4
              go_wp2_with (go_at_call 73; refine (lim_at1 _ _).mono ?_; rintro e w' ⟨rfl, rfl⟩)
              refine ⟨⟨1, by omega, rfl, ⟨_, rfl, ?_⟩, HOk1.out, ?_⟩, by simp [intOf]⟩
              · exact max_in HM0 HMm.out
              · have h := C3.out.set 1 (.int .i64 v)
                have e : (ctCells PL 0).setIfInBounds 1 (.int .i64 v) = ctCells PL 1 := by
                  rw [← HV.out, HP1.out]
                  simp [ctCells, cfgLow, cfgHigh]
                rwa [e] at h
            · have HF := Lib.hid (ct_six (t := s.data.toList) (by rw [HPL.out]; exact ct_dec (k := 0) (by omega) (by simpa using hd)))
              obtain rfl : m = 6 := by rw [← HM.out, HP1.out, intE, if_neg hd]
              clear hw0 hd
              go_quiet (fail)
              go_wp2
              have BR : Hid (Bx w.heap.size cfg0 45 ((((((w2.drewN nq).setCell ⟨w.heap.size, 0, none⟩ (.int .i64 0)).setCell ⟨w.heap.size, 1, none⟩ (.int .i64 0)).setCell ⟨w.heap.size, 2, none⟩ (.int .i64 0)).setCell ⟨w.heap.size, 3, none⟩ (.int .i64 0)).setCell ⟨w.heap.size, 4, none⟩ (.int .i64 0))) := (((((C2.out.res.then ((Ow.refl _).drewN nq)).set 0 _).set 1 _).set 2 _).set 3 _).set 4 _
              have OR : Hid (Ow w ((((((w2.drewN nq).setCell ⟨w.heap.size, 0, none⟩ (.int .i64 0)).setCell ⟨w.heap.size, 1, none⟩ (.int .i64 0)).setCell ⟨w.heap.size, 2, none⟩ (.int .i64 0)).setCell ⟨w.heap.size, 3, none⟩ (.int .i64 0)).setCell ⟨w.heap.size, 4, none⟩ (.int .i64 0))) := (((((C2.out.old.drewN nq).set (Nat.le_refl _) 0 _).set (Nat.le_refl _) 1 _).set (Nat.le_refl _) 2 _).set (Nat.le_refl _) 3 _).set (Nat.le_refl _) 4 _
              generalize hW9 : (((((w2.drewN nq).setCell ⟨w.heap.size, 0, none⟩ (.int .i64 0)).setCell ⟨w.heap.size, 1, none⟩ (.int .i64 0)).setCell ⟨w.heap.size, 2, none⟩ (.int .i64 0)).setCell ⟨w.heap.size, 3, none⟩ (.int .i64 0)).setCell ⟨w.heap.size, 4, none⟩ (.int .i64 0) = W9 at BR OR ⊢
              exact cfg_ret BR.out rfl rfl (by unfold CtPost; rw [HF.out.1, HF.out.2, HF.out.2, HF.out.2, HF.out.2, HF.out.2]; exact ⟨rfl, OR.out⟩)
          · have HF := Lib.hid (ct_six (t := s.data.toList) (by rw [HPL.out]; exact ct_word (k := 0) (by omega) hw0))
            have en : (p0.toList == [99, 97, 114, 115]) = false := by rw [ba_toList, beq_eq_false_iff_ne, HP0.out]; exact hw0
            clear hw0
            go_quiet (fail)
            go_wp2
            have BR : Hid (Bx w.heap.size cfg0 45 ((((((w2.drewN nq).setCell ⟨w.heap.size, 0, none⟩ (.int .i64 0)).setCell ⟨w.heap.size, 1, none⟩ (.int .i64 0)).setCell ⟨w.heap.size, 2, none⟩ (.int .i64 0)).setCell ⟨w.heap.size, 3, none⟩ (.int .i64 0)).setCell ⟨w.heap.size, 4, none⟩ (.int .i64 0))) := (((((C2.out.res.then ((Ow.refl _).drewN nq)).set 0 _).set 1 _).set 2 _).set 3 _).set 4 _
            have OR : Hid (Ow w ((((((w2.drewN nq).setCell ⟨w.heap.size, 0, none⟩ (.int .i64 0)).setCell ⟨w.heap.size, 1, none⟩ (.int .i64 0)).setCell ⟨w.heap.size, 2, none⟩ (.int .i64 0)).setCell ⟨w.heap.size, 3, none⟩ (.int .i64 0)).setCell ⟨w.heap.size, 4, none⟩ (.int .i64 0))) := (((((C2.out.old.drewN nq).set (Nat.le_refl _) 0 _).set (Nat.le_refl _) 1 _).set (Nat.le_refl _) 2 _).set (Nat.le_refl _) 3 _).set (Nat.le_refl _) 4 _
            generalize hW9 : (((((w2.drewN nq).setCell ⟨w.heap.size, 0, none⟩ (.int .i64 0)).setCell ⟨w.heap.size, 1, none⟩ (.int .i64 0)).setCell ⟨w.heap.size, 2, none⟩ (.int .i64 0)).setCell ⟨w.heap.size, 3, none⟩ (.int .i64 0)).setCell ⟨w.heap.size, 4, none⟩ (.int .i64 0) = W9 at BR OR ⊢
            exact cfg_ret BR.out rfl rfl (by unfold CtPost; rw [HF.out.1, HF.out.2, HF.out.2, HF.out.2, HF.out.2, HF.out.2]; exact ⟨rfl, OR.out⟩)
        · obtain ⟨p0, hp0⟩ : ∃ p : ByteArray, p.data.toList = PL.getD 2 [] := ⟨⟨(PL.getD 2 []).toArray⟩, rfl⟩
          obtain ⟨p1, hp1⟩ : ∃ p : ByteArray, p.data.toList = PL.getD 3 [] := ⟨⟨(PL.getD 3 []).toArray⟩, rfl⟩
          have g0 := getD_at (L := PL) (i := 2) (d := []) (by rw [HN.out]; omega)
          have g1 := getD_at (L := PL) (i := 3) (d := []) (by rw [HN.out]; omega)
          have s0 : wr.cell? ⟨w.heap.size + 1, 2, none⟩ = some (.string p0) := by rw [HCp.out.str 2 _ g0.1, ← hp0, ba_mk]
          have s1 : wr.cell? ⟨w.heap.size + 1, 3, none⟩ = some (.string p1) := by rw [HCp.out.str 3 _ g1.1, ← hp1, ba_mk]
          have z1 : p1.size ≤ 9000 := by rw [← ba_len, hp1]; exact HSz.out _ g1.2
          have l0 : wr.cell? ⟨w1.heap.size, 4, none⟩ = some (.string ⟨#[111, 102]⟩) := HCp.out.lim.at (i := 4) rfl
          have l1 : wr.cell? ⟨w1.heap.size, 5, none⟩ = some (.int .i64 8) := HCp.out.lim.at (i := 5) rfl
          have l2 : wr.cell? ⟨w1.heap.size, 6, none⟩ = some (.int .i64 64) := HCp.out.lim.at (i := 6) rfl
          have l3 : wr.cell? ⟨w1.heap.size, 7, none⟩ = some (.func (.func 74) #[] #[]) := HCp.out.lim.at (i := 7) rfl
          obtain ⟨v, hv⟩ : ∃ v, intV (PL.getD 3 []) 8 64 = v := ⟨_, rfl⟩
          obtain ⟨m, hm⟩ : ∃ m, intE (PL.getD 3 []) 8 64 = m := ⟨_, rfl⟩
          have HP0 := Lib.hid hp0
          have HP1 := Lib.hid hp1
          have HV : Hid (intV p1.data.toList 8 64 = v) := by rw [Hid, hp1, hv]
          have HM : Hid (intE p1.data.toList 8 64 = m) := by rw [Hid, hp1, hm]
          clear hp0 hp1 hv hm g0 g1 hk h5
          have q1 : IntKind.i64.wrap 2 = 2 := by decide
          have q2 : IntKind.i64.wrap (2 + 1) = 3 := by decide
          have q3 : IntKind.i64.wrap 3 = 3 := by decide
          go_wp2_with fail
          have HBG : Hid (Bx wr.heap.size #[.string ⟨#[111, 102]⟩, .int .i64 8, .int .i64 64, .func (.func 74) #[] #[]] 96 (wr.alloc (.cells #[.string ⟨#[111, 102]⟩, .int .i64 8, .int .i64 64, .func (.func 74) #[] #[]] 96))) := Bx.new _ _ _
          have HCP1 : Hid (CP w w.heap.size (w.heap.size + 1) w1.heap.size (w1.heap.size + 1) PL (ctCells PL 1) (wr.alloc (.cells #[.string ⟨#[111, 102]⟩, .int .i64 8, .int .i64 64, .func (.func 74) #[] #[]] 96))) := HCp.out.then ((Ow.refl _).alloc _)
          have t1 : (wr.alloc (.cells #[.string ⟨#[111, 102]⟩, .int .i64 8, .int .i64 64, .func (.func 74) #[] #[]] 96)).cell? ⟨w.heap.size + 1, 3, none⟩ = some (.string p1) := (World.cell?_alloc_lt _ _ _ HCp.out.hlt).trans s1
          have t0 : (wr.alloc (.cells #[.string ⟨#[111, 102]⟩, .int .i64 8, .int .i64 64, .func (.func 74) #[] #[]] 96)).cell? ⟨w.heap.size + 1, 2, none⟩ = some (.string p0) := (World.cell?_alloc_lt _ _ _ HCp.out.hlt).trans s0
          clear l0 l1 l2 l3 s0 s1
          generalize hG : wr.heap.size = G at HBG ⊢
          generalize hW1 : wr.alloc (.cells #[.string ⟨#[111, 102]⟩, .int .i64 8, .int .i64 64, .func (.func 74) #[] #[]] 96) = W1 at HBG HCP1 t0 t1 ⊢
          have HT0 := Lib.hid t0
          have HG1 := Lib.hid (HG.out.below HCP1.out.old)
          have hh := Hp.all (show Hp W1 (w.heap.size + 1) 3 G p1 8 64 W1 from ⟨Ow.refl _, HCP1.out.hlt, HBG.out.lt, t1, HBG.out.at (i := 1) rfl, HBG.out.at (i := 2) rfl⟩)
          clear t0 t1
          go_region_held3 (fun w' => Hp W1 (w.heap.size + 1) 3 G p1 8 64 w' ∧ w'.cell? ⟨w.heap.size + 1, 3, none⟩ = some (.string p1) ∧ w'.cell? ⟨G, 1, none⟩ = some (.int .i64 8) ∧ w'.cell? ⟨G, 2, none⟩ = some (.int .i64 64)) (first | assumption | exact Hp.all (by assumption) | exact (Hp.drew (by assumption)).all | exact (Hp.after (by assumption) (by assumption)).all) (first | (go_at_call 15; refine (cint_is p1 8 64 v m HV.out HM.out _ z1 (HG1.out.below (Hp.fin (by assumption))) ⟨by decide, by decide⟩).mono ?_; rintro e w2 ⟨rfl, hb2⟩))
          have O2 : Hid (Ow W1 w2) := Hp.fin (by assumption)
          have C2 := Lib.hid (HCP1.out.then O2.out)
          have r0 : w2.cell? ⟨w.heap.size + 1, 2, none⟩ = some (.string p0) := (O2.out.cell (p := ⟨w.heap.size + 1, 2, none⟩) HCP1.out.hlt).trans HT0.out
          have r1 : w2.cell? ⟨G, 0, none⟩ = some (.string ⟨#[111, 102]⟩) := (HBG.out.then O2.out).at (i := 0) rfl
          have r2 : w2.cell? ⟨G, 3, none⟩ = some (.func (.func 74) #[] #[]) := (HBG.out.then O2.out).at (i := 3) rfl
          have x0 : w2.cell? ⟨w.heap.size, 0, none⟩ = some (.int .i64 0) := C2.out.res.at (i := 0) rfl
          have x1 : w2.cell? ⟨w.heap.size, 1, none⟩ = some (.int .i64 0) := C2.out.res.at (i := 1) rfl
          have x2 : w2.cell? ⟨w.heap.size, 2, none⟩ = some (.int .i64 0) := C2.out.res.at (i := 2) rfl
          have x3 : w2.cell? ⟨w.heap.size, 3, none⟩ = some (.int .i64 0) := C2.out.res.at (i := 3) rfl
          have x4 : w2.cell? ⟨w.heap.size, 4, none⟩ = some (.int .i64 0) := C2.out.res.at (i := 4) rfl
          have y0 := C2.out.res.z 0
          have y1 := C2.out.res.z 1
          have y2 := C2.out.res.z 2
          have y3 := C2.out.res.z 3
          have y4 := C2.out.res.z 4
          clear hh hb2
          go_wp2_with fail
          by_cases hw0 : PL.getD 2 [] = cfgWord 1
          · obtain rfl : p0 = ⟨#[111, 102]⟩ := ba_ext (by rw [HP0.out, hw0]; rfl)
            by_cases hd : decimalB (PL.getD 3 []) = true
            · have HOk1 : Hid (okUpto PL 2 = true) := by
                show (okUpto PL 1 && (PL.getD 2 [] == cfgWord 1 && decimalB (PL.getD 3 []))) = true
                rw [HOk.out, hw0, hd, beq_self_eq_true]; rfl
              have HMm : Hid (m = if inW PL 1 then 0 else 7) := by
                rw [Hid, ← HM.out, HP1.out, intE, if_pos hd]
                simp only [inW, numW, cfgLow, cfgHigh, Nat.reduceMul, Nat.reduceAdd, decide_eq_true_eq]
              have em : (m == 6) = false := by rw [beq_eq_false_iff_ne, HMm.out]; split <;> decide
              clear hw0 hd
              go_quiet (fail)
              have O3 := Lib.hid (Ow.drewN (C2.out.old) nq)
              have C3 := Lib.hid (C2.out.then ((Ow.refl _).drewN nq))
              generalize hW3 : w2.drewN nq = w3 at C3 O3 ⊢
              have r3 : w3.cell? ⟨G, 3, none⟩ = some (.func (.func 74) #[] #[]) := by rw [← hW3]; exact r2
              have b0 : w3.cell? ⟨w1.heap.size + 1, 0, none⟩ = some (.int .i64 0) := C3.out.cfg.at (i := 0) rfl
              have z0 := C3.out.cfg.z 0
              clear r0 r1 r2 x0 x1 x2 x3 x4 y0 y1 y2 y3 y4
              go_wp2_with (go_at_call 74; refine (lim_at2 _ _).mono ?_; rintro e w' ⟨rfl, rfl⟩)
              refine ⟨⟨2, by omega, rfl, ⟨_, rfl, ?_⟩, HOk1.out, ?_⟩, by simp [intOf]⟩
              · exact max_in HM0 HMm.out
              · have h := C3.out.set 0 (.int .i64 v)
                have e : (ctCells PL 1).setIfInBounds 0 (.int .i64 v) = ctCells PL 2 := by
                  rw [← HV.out, HP1.out]
                  simp [ctCells, cfgLow, cfgHigh]
                rwa [e] at h
            · have HF := Lib.hid (ct_six (t := s.data.toList) (by rw [HPL.out]; exact ct_dec (k := 1) (by omega) (by simpa using hd)))
              obtain rfl : m = 6 := by rw [← HM.out, HP1.out, intE, if_neg hd]
              clear hw0 hd
              go_quiet (fail)
              go_wp2
              have BR : Hid (Bx w.heap.size cfg0 45 ((((((w2.drewN nq).setCell ⟨w.heap.size, 0, none⟩ (.int .i64 0)).setCell ⟨w.heap.size, 1, none⟩ (.int .i64 0)).setCell ⟨w.heap.size, 2, none⟩ (.int .i64 0)).setCell ⟨w.heap.size, 3, none⟩ (.int .i64 0)).setCell ⟨w.heap.size, 4, none⟩ (.int .i64 0))) := (((((C2.out.res.then ((Ow.refl _).drewN nq)).set 0 _).set 1 _).set 2 _).set 3 _).set 4 _
              have OR : Hid (Ow w ((((((w2.drewN nq).setCell ⟨w.heap.size, 0, none⟩ (.int .i64 0)).setCell ⟨w.heap.size, 1, none⟩ (.int .i64 0)).setCell ⟨w.heap.size, 2, none⟩ (.int .i64 0)).setCell ⟨w.heap.size, 3, none⟩ (.int .i64 0)).setCell ⟨w.heap.size, 4, none⟩ (.int .i64 0))) := (((((C2.out.old.drewN nq).set (Nat.le_refl _) 0 _).set (Nat.le_refl _) 1 _).set (Nat.le_refl _) 2 _).set (Nat.le_refl _) 3 _).set (Nat.le_refl _) 4 _
              generalize hW9 : (((((w2.drewN nq).setCell ⟨w.heap.size, 0, none⟩ (.int .i64 0)).setCell ⟨w.heap.size, 1, none⟩ (.int .i64 0)).setCell ⟨w.heap.size, 2, none⟩ (.int .i64 0)).setCell ⟨w.heap.size, 3, none⟩ (.int .i64 0)).setCell ⟨w.heap.size, 4, none⟩ (.int .i64 0) = W9 at BR OR ⊢
              exact cfg_ret BR.out rfl rfl (by unfold CtPost; rw [HF.out.1, HF.out.2, HF.out.2, HF.out.2, HF.out.2, HF.out.2]; exact ⟨rfl, OR.out⟩)
          · have HF := Lib.hid (ct_six (t := s.data.toList) (by rw [HPL.out]; exact ct_word (k := 1) (by omega) hw0))
            have en : (p0.toList == [111, 102]) = false := by rw [ba_toList, beq_eq_false_iff_ne, HP0.out]; exact hw0
            clear hw0
            go_quiet (fail)
            go_wp2
            have BR : Hid (Bx w.heap.size cfg0 45 ((((((w2.drewN nq).setCell ⟨w.heap.size, 0, none⟩ (.int .i64 0)).setCell ⟨w.heap.size, 1, none⟩ (.int .i64 0)).setCell ⟨w.heap.size, 2, none⟩ (.int .i64 0)).setCell ⟨w.heap.size, 3, none⟩ (.int .i64 0)).setCell ⟨w.heap.size, 4, none⟩ (.int .i64 0))) := (((((C2.out.res.then ((Ow.refl _).drewN nq)).set 0 _).set 1 _).set 2 _).set 3 _).set 4 _
            have OR : Hid (Ow w ((((((w2.drewN nq).setCell ⟨w.heap.size, 0, none⟩ (.int .i64 0)).setCell ⟨w.heap.size, 1, none⟩ (.int .i64 0)).setCell ⟨w.heap.size, 2, none⟩ (.int .i64 0)).setCell ⟨w.heap.size, 3, none⟩ (.int .i64 0)).setCell ⟨w.heap.size, 4, none⟩ (.int .i64 0))) := (((((C2.out.old.drewN nq).set (Nat.le_refl _) 0 _).set (Nat.le_refl _) 1 _).set (Nat.le_refl _) 2 _).set (Nat.le_refl _) 3 _).set (Nat.le_refl _) 4 _
            generalize hW9 : (((((w2.drewN nq).setCell ⟨w.heap.size, 0, none⟩ (.int .i64 0)).setCell ⟨w.heap.size, 1, none⟩ (.int .i64 0)).setCell ⟨w.heap.size, 2, none⟩ (.int .i64 0)).setCell ⟨w.heap.size, 3, none⟩ (.int .i64 0)).setCell ⟨w.heap.size, 4, none⟩ (.int .i64 0) = W9 at BR OR ⊢
            exact cfg_ret BR.out rfl rfl (by unfold CtPost; rw [HF.out.1, HF.out.2, HF.out.2, HF.out.2, HF.out.2, HF.out.2]; exact ⟨rfl, OR.out⟩)
        · obtain ⟨p0, hp0⟩ : ∃ p : ByteArray, p.data.toList = PL.getD 4 [] := ⟨⟨(PL.getD 4 []).toArray⟩, rfl⟩
          obtain ⟨p1, hp1⟩ : ∃ p : ByteArray, p.data.toList = PL.getD 5 [] := ⟨⟨(PL.getD 5 []).toArray⟩, rfl⟩
          have g0 := getD_at (L := PL) (i := 4) (d := []) (by rw [HN.out]; omega)
          have g1 := getD_at (L := PL) (i := 5) (d := []) (by rw [HN.out]; omega)
          have s0 : wr.cell? ⟨w.heap.size + 1, 4, none⟩ = some (.string p0) := by rw [HCp.out.str 4 _ g0.1, ← hp0, ba_mk]
          have s1 : wr.cell? ⟨w.heap.size + 1, 5, none⟩ = some (.string p1) := by rw [HCp.out.str 5 _ g1.1, ← hp1, ba_mk]
          have z1 : p1.size ≤ 9000 := by rw [← ba_len, hp1]; exact HSz.out _ g1.2
          have l0 : wr.cell? ⟨w1.heap.size, 8, none⟩ = some (.string ⟨#[110, 117, 114, 115, 101, 114, 121]⟩) := HCp.out.lim.at (i := 8) rfl
          have l1 : wr.cell? ⟨w1.heap.size, 9, none⟩ = some (.int .i64 4) := HCp.out.lim.at (i := 9) rfl
          have l2 : wr.cell? ⟨w1.heap.size, 10, none⟩ = some (.int .i64 64) := HCp.out.lim.at (i := 10) rfl
          have l3 : wr.cell? ⟨w1.heap.size, 11, none⟩ = some (.func (.func 75) #[] #[]) := HCp.out.lim.at (i := 11) rfl
          obtain ⟨v, hv⟩ : ∃ v, intV (PL.getD 5 []) 4 64 = v := ⟨_, rfl⟩
          obtain ⟨m, hm⟩ : ∃ m, intE (PL.getD 5 []) 4 64 = m := ⟨_, rfl⟩
          have HP0 := Lib.hid hp0
          have HP1 := Lib.hid hp1
          have HV : Hid (intV p1.data.toList 4 64 = v) := by rw [Hid, hp1, hv]
          have HM : Hid (intE p1.data.toList 4 64 = m) := by rw [Hid, hp1, hm]
          clear hp0 hp1 hv hm g0 g1 hk h5
          have q1 : IntKind.i64.wrap 4 = 4 := by decide
          have q2 : IntKind.i64.wrap (4 + 1) = 5 := by decide
          have q3 : IntKind.i64.wrap 5 = 5 := by decide
          go_wp2_with fail
          have HBG : Hid (Bx wr.heap.size #[.string ⟨#[110, 117, 114, 115, 101, 114, 121]⟩, .int .i64 4, .int .i64 64, .func (.func 75) #[] #[]] 96 (wr.alloc (.cells #[.string ⟨#[110, 117, 114, 115, 101, 114, 121]⟩, .int .i64 4, .int .i64 64, .func (.func 75) #[] #[]] 96))) := Bx.new _ _ _
          have HCP1 : Hid (CP w w.heap.size (w.heap.size + 1) w1.heap.size (w1.heap.size + 1) PL (ctCells PL 2) (wr.alloc (.cells #[.string ⟨#[110, 117, 114, 115, 101, 114, 121]⟩, .int .i64 4, .int .i64 64, .func (.func 75) #[] #[]] 96))) := HCp.out.then ((Ow.refl _).alloc _)
          have t1 : (wr.alloc (.cells #[.string ⟨#[110, 117, 114, 115, 101, 114, 121]⟩, .int .i64 4, .int .i64 64, .func (.func 75) #[] #[]] 96)).cell? ⟨w.heap.size + 1, 5, none⟩ = some (.string p1) := (World.cell?_alloc_lt _ _ _ HCp.out.hlt).trans s1
          have t0 : (wr.alloc (.cells #[.string ⟨#[110, 117, 114, 115, 101, 114, 121]⟩, .int .i64 4, .int .i64 64, .func (.func 75) #[] #[]] 96)).cell? ⟨w.heap.size + 1, 4, none⟩ = some (.string p0) := (World.cell?_alloc_lt _ _ _ HCp.out.hlt).trans s0
          clear l0 l1 l2 l3 s0 s1
          generalize hG : wr.heap.size = G at HBG ⊢
          generalize hW1 : wr.alloc (.cells #[.string ⟨#[110, 117, 114, 115, 101, 114, 121]⟩, .int .i64 4, .int .i64 64, .func (.func 75) #[] #[]] 96) = W1 at HBG HCP1 t0 t1 ⊢
          have HT0 := Lib.hid t0
          have HG1 := Lib.hid (HG.out.below HCP1.out.old)
          have hh := Hp.all (show Hp W1 (w.heap.size + 1) 5 G p1 4 64 W1 from ⟨Ow.refl _, HCP1.out.hlt, HBG.out.lt, t1, HBG.out.at (i := 1) rfl, HBG.out.at (i := 2) rfl⟩)
          clear t0 t1
          go_region_held3 (fun w' => Hp W1 (w.heap.size + 1) 5 G p1 4 64 w' ∧ w'.cell? ⟨w.heap.size + 1, 5, none⟩ = some (.string p1) ∧ w'.cell? ⟨G, 1, none⟩ = some (.int .i64 4) ∧ w'.cell? ⟨G, 2, none⟩ = some (.int .i64 64)) (first | assumption | exact Hp.all (by assumption) | exact (Hp.drew (by assumption)).all | exact (Hp.after (by assumption) (by assumption)).all) (first | (go_at_call 15; refine (cint_is p1 4 64 v m HV.out HM.out _ z1 (HG1.out.below (Hp.fin (by assumption))) ⟨by decide, by decide⟩).mono ?_; rintro e w2 ⟨rfl, hb2⟩))
          have O2 : Hid (Ow W1 w2) := Hp.fin (by assumption)
          have C2 := Lib.hid (HCP1.out.then O2.out)
          have r0 : w2.cell? ⟨w.heap.size + 1, 4, none⟩ = some (.string p0) := (O2.out.cell (p := ⟨w.heap.size + 1, 4, none⟩) HCP1.out.hlt).trans HT0.out
          have r1 : w2.cell? ⟨G, 0, none⟩ = some (.string ⟨#[110, 117, 114, 115, 101, 114, 121]⟩) := (HBG.out.then O2.out).at (i := 0) rfl
          have r2 : w2.cell? ⟨G, 3, none⟩ = some (.func (.func 75) #[] #[]) := (HBG.out.then O2.out).at (i := 3) rfl
          have x0 : w2.cell? ⟨w.heap.size, 0, none⟩ = some (.int .i64 0) := C2.out.res.at (i := 0) rfl
          have x1 : w2.cell? ⟨w.heap.size, 1, none⟩ = some (.int .i64 0) := C2.out.res.at (i := 1) rfl
          have x2 : w2.cell? ⟨w.heap.size, 2, none⟩ = some (.int .i64 0) := C2.out.res.at (i := 2) rfl
          have x3 : w2.cell? ⟨w.heap.size, 3, none⟩ = some (.int .i64 0) := C2.out.res.at (i := 3) rfl
          have x4 : w2.cell? ⟨w.heap.size, 4, none⟩ = some (.int .i64 0) := C2.out.res.at (i := 4) rfl
          have y0 := C2.out.res.z 0
          have y1 := C2.out.res.z 1
          have y2 := C2.out.res.z 2
          have y3 := C2.out.res.z 3
          have y4 := C2.out.res.z 4
          clear hh hb2
          go_wp2_with fail
          by_cases hw0 : PL.getD 4 [] = cfgWord 2
          · obtain rfl : p0 = ⟨#[110, 117, 114, 115, 101, 114, 121]⟩ := ba_ext (by rw [HP0.out, hw0]; rfl)
            by_cases hd : decimalB (PL.getD 5 []) = true
            · have HOk1 : Hid (okUpto PL 3 = true) := by
                show (okUpto PL 2 && (PL.getD 4 [] == cfgWord 2 && decimalB (PL.getD 5 []))) = true
                rw [HOk.out, hw0, hd, beq_self_eq_true]; rfl
              have HMm : Hid (m = if inW PL 2 then 0 else 7) := by
                rw [Hid, ← HM.out, HP1.out, intE, if_pos hd]
                simp only [inW, numW, cfgLow, cfgHigh, Nat.reduceMul, Nat.reduceAdd, decide_eq_true_eq]
              have em : (m == 6) = false := by rw [beq_eq_false_iff_ne, HMm.out]; split <;> decide
              clear hw0 hd
              go_quiet (fail)
              have O3 := Lib.hid (Ow.drewN (C2.out.old) nq)
              have C3 := Lib.hid (C2.out.then ((Ow.refl _).drewN nq))
              generalize hW3 : w2.drewN nq = w3 at C3 O3 ⊢
              have r3 : w3.cell? ⟨G, 3, none⟩ = some (.func (.func 75) #[] #[]) := by rw [← hW3]; exact r2
              have b0 : w3.cell? ⟨w1.heap.size + 1, 2, none⟩ = some (.int .i64 0) := C3.out.cfg.at (i := 2) rfl
              have z0 := C3.out.cfg.z 2
              clear r0 r1 r2 x0 x1 x2 x3 x4 y0 y1 y2 y3 y4
              go_wp2_with (go_at_call 75; refine (lim_at3 _ _).mono ?_; rintro e w' ⟨rfl, rfl⟩)
              refine ⟨⟨3, by omega, rfl, ⟨_, rfl, ?_⟩, HOk1.out, ?_⟩, by simp [intOf]⟩
              · exact max_in HM0 HMm.out
              · have h := C3.out.set 2 (.int .i64 v)
                have e : (ctCells PL 2).setIfInBounds 2 (.int .i64 v) = ctCells PL 3 := by
                  rw [← HV.out, HP1.out]
                  simp [ctCells, cfgLow, cfgHigh]
                rwa [e] at h
            · have HF := Lib.hid (ct_six (t := s.data.toList) (by rw [HPL.out]; exact ct_dec (k := 2) (by omega) (by simpa using hd)))
              obtain rfl : m = 6 := by rw [← HM.out, HP1.out, intE, if_neg hd]
              clear hw0 hd
              go_quiet (fail)
              go_wp2
              have BR : Hid (Bx w.heap.size cfg0 45 ((((((w2.drewN nq).setCell ⟨w.heap.size, 0, none⟩ (.int .i64 0)).setCell ⟨w.heap.size, 1, none⟩ (.int .i64 0)).setCell ⟨w.heap.size, 2, none⟩ (.int .i64 0)).setCell ⟨w.heap.size, 3, none⟩ (.int .i64 0)).setCell ⟨w.heap.size, 4, none⟩ (.int .i64 0))) := (((((C2.out.res.then ((Ow.refl _).drewN nq)).set 0 _).set 1 _).set 2 _).set 3 _).set 4 _
              have OR : Hid (Ow w ((((((w2.drewN nq).setCell ⟨w.heap.size, 0, none⟩ (.int .i64 0)).setCell ⟨w.heap.size, 1, none⟩ (.int .i64 0)).setCell ⟨w.heap.size, 2, none⟩ (.int .i64 0)).setCell ⟨w.heap.size, 3, none⟩ (.int .i64 0)).setCell ⟨w.heap.size, 4, none⟩ (.int .i64 0))) := (((((C2.out.old.drewN nq).set (Nat.le_refl _) 0 _).set (Nat.le_refl _) 1 _).set (Nat.le_refl _) 2 _).set (Nat.le_refl _) 3 _).set (Nat.le_refl _) 4 _
              generalize hW9 : (((((w2.drewN nq).setCell ⟨w.heap.size, 0, none⟩ (.int .i64 0)).setCell ⟨w.heap.size, 1, none⟩ (.int .i64 0)).setCell ⟨w.heap.size, 2, none⟩ (.int .i64 0)).setCell ⟨w.heap.size, 3, none⟩ (.int .i64 0)).setCell ⟨w.heap.size, 4, none⟩ (.int .i64 0) = W9 at BR OR ⊢
              exact cfg_ret BR.out rfl rfl (by unfold CtPost; rw [HF.out.1, HF.out.2, HF.out.2, HF.out.2, HF.out.2, HF.out.2]; exact ⟨rfl, OR.out⟩)
          · have HF := Lib.hid (ct_six (t := s.data.toList) (by rw [HPL.out]; exact ct_word (k := 2) (by omega) hw0))
            have en : (p0.toList == [110, 117, 114, 115, 101, 114, 121]) = false := by rw [ba_toList, beq_eq_false_iff_ne, HP0.out]; exact hw0
            clear hw0
            go_quiet (fail)
            go_wp2
            have BR : Hid (Bx w.heap.size cfg0 45 ((((((w2.drewN nq).setCell ⟨w.heap.size, 0, none⟩ (.int .i64 0)).setCell ⟨w.heap.size, 1, none⟩ (.int .i64 0)).setCell ⟨w.heap.size, 2, none⟩ (.int .i64 0)).setCell ⟨w.heap.size, 3, none⟩ (.int .i64 0)).setCell ⟨w.heap.size, 4, none⟩ (.int .i64 0))) := (((((C2.out.res.then ((Ow.refl _).drewN nq)).set 0 _).set 1 _).set 2 _).set 3 _).set 4 _
            have OR : Hid (Ow w ((((((w2.drewN nq).setCell ⟨w.heap.size, 0, none⟩ (.int .i64 0)).setCell ⟨w.heap.size, 1, none⟩ (.int .i64 0)).setCell ⟨w.heap.size, 2, none⟩ (.int .i64 0)).setCell ⟨w.heap.size, 3, none⟩ (.int .i64 0)).setCell ⟨w.heap.size, 4, none⟩ (.int .i64 0))) := (((((C2.out.old.drewN nq).set (Nat.le_refl _) 0 _).set (Nat.le_refl _) 1 _).set (Nat.le_refl _) 2 _).set (Nat.le_refl _) 3 _).set (Nat.le_refl _) 4 _
            generalize hW9 : (((((w2.drewN nq).setCell ⟨w.heap.size, 0, none⟩ (.int .i64 0)).setCell ⟨w.heap.size, 1, none⟩ (.int .i64 0)).setCell ⟨w.heap.size, 2, none⟩ (.int .i64 0)).setCell ⟨w.heap.size, 3, none⟩ (.int .i64 0)).setCell ⟨w.heap.size, 4, none⟩ (.int .i64 0) = W9 at BR OR ⊢
            exact cfg_ret BR.out rfl rfl (by unfold CtPost; rw [HF.out.1, HF.out.2, HF.out.2, HF.out.2, HF.out.2, HF.out.2]; exact ⟨rfl, OR.out⟩)
        · obtain ⟨p0, hp0⟩ : ∃ p : ByteArray, p.data.toList = PL.getD 6 [] := ⟨⟨(PL.getD 6 []).toArray⟩, rfl⟩
          obtain ⟨p1, hp1⟩ : ∃ p : ByteArray, p.data.toList = PL.getD 7 [] := ⟨⟨(PL.getD 7 []).toArray⟩, rfl⟩
          have g0 := getD_at (L := PL) (i := 6) (d := []) (by rw [HN.out]; omega)
          have g1 := getD_at (L := PL) (i := 7) (d := []) (by rw [HN.out]; omega)
          have s0 : wr.cell? ⟨w.heap.size + 1, 6, none⟩ = some (.string p0) := by rw [HCp.out.str 6 _ g0.1, ← hp0, ba_mk]
          have s1 : wr.cell? ⟨w.heap.size + 1, 7, none⟩ = some (.string p1) := by rw [HCp.out.str 7 _ g1.1, ← hp1, ba_mk]
          have z1 : p1.size ≤ 9000 := by rw [← ba_len, hp1]; exact HSz.out _ g1.2
          have l0 : wr.cell? ⟨w1.heap.size, 12, none⟩ = some (.string ⟨#[114, 101, 103, 105, 115, 116, 101, 114, 115]⟩) := HCp.out.lim.at (i := 12) rfl
          have l1 : wr.cell? ⟨w1.heap.size, 13, none⟩ = some (.int .i64 1) := HCp.out.lim.at (i := 13) rfl
          have l2 : wr.cell? ⟨w1.heap.size, 14, none⟩ = some (.int .i64 8) := HCp.out.lim.at (i := 14) rfl
          have l3 : wr.cell? ⟨w1.heap.size, 15, none⟩ = some (.func (.func 76) #[] #[]) := HCp.out.lim.at (i := 15) rfl
          obtain ⟨v, hv⟩ : ∃ v, intV (PL.getD 7 []) 1 8 = v := ⟨_, rfl⟩
          obtain ⟨m, hm⟩ : ∃ m, intE (PL.getD 7 []) 1 8 = m := ⟨_, rfl⟩
          have HP0 := Lib.hid hp0
          have HP1 := Lib.hid hp1
          have HV : Hid (intV p1.data.toList 1 8 = v) := by rw [Hid, hp1, hv]
          have HM : Hid (intE p1.data.toList 1 8 = m) := by rw [Hid, hp1, hm]
          clear hp0 hp1 hv hm g0 g1 hk h5
          have q1 : IntKind.i64.wrap 6 = 6 := by decide
          have q2 : IntKind.i64.wrap (6 + 1) = 7 := by decide
          have q3 : IntKind.i64.wrap 7 = 7 := by decide
          go_wp2_with fail
          have HBG : Hid (Bx wr.heap.size #[.string ⟨#[114, 101, 103, 105, 115, 116, 101, 114, 115]⟩, .int .i64 1, .int .i64 8, .func (.func 76) #[] #[]] 96 (wr.alloc (.cells #[.string ⟨#[114, 101, 103, 105, 115, 116, 101, 114, 115]⟩, .int .i64 1, .int .i64 8, .func (.func 76) #[] #[]] 96))) := Bx.new _ _ _
          have HCP1 : Hid (CP w w.heap.size (w.heap.size + 1) w1.heap.size (w1.heap.size + 1) PL (ctCells PL 3) (wr.alloc (.cells #[.string ⟨#[114, 101, 103, 105, 115, 116, 101, 114, 115]⟩, .int .i64 1, .int .i64 8, .func (.func 76) #[] #[]] 96))) := HCp.out.then ((Ow.refl _).alloc _)
          have t1 : (wr.alloc (.cells #[.string ⟨#[114, 101, 103, 105, 115, 116, 101, 114, 115]⟩, .int .i64 1, .int .i64 8, .func (.func 76) #[] #[]] 96)).cell? ⟨w.heap.size + 1, 7, none⟩ = some (.string p1) := (World.cell?_alloc_lt _ _ _ HCp.out.hlt).trans s1
          have t0 : (wr.alloc (.cells #[.string ⟨#[114, 101, 103, 105, 115, 116, 101, 114, 115]⟩, .int .i64 1, .int .i64 8, .func (.func 76) #[] #[]] 96)).cell? ⟨w.heap.size + 1, 6, none⟩ = some (.string p0) := (World.cell?_alloc_lt _ _ _ HCp.out.hlt).trans s0
          clear l0 l1 l2 l3 s0 s1
          generalize hG : wr.heap.size = G at HBG ⊢
          generalize hW1 : wr.alloc (.cells #[.string ⟨#[114, 101, 103, 105, 115, 116, 101, 114, 115]⟩, .int .i64 1, .int .i64 8, .func (.func 76) #[] #[]] 96) = W1 at HBG HCP1 t0 t1 ⊢
          have HT0 := Lib.hid t0
          have HG1 := Lib.hid (HG.out.below HCP1.out.old)
          have hh := Hp.all (show Hp W1 (w.heap.size + 1) 7 G p1 1 8 W1 from ⟨Ow.refl _, HCP1.out.hlt, HBG.out.lt, t1, HBG.out.at (i := 1) rfl, HBG.out.at (i := 2) rfl⟩)
          clear t0 t1
          go_region_held3 (fun w' => Hp W1 (w.heap.size + 1) 7 G p1 1 8 w' ∧ w'.cell? ⟨w.heap.size + 1, 7, none⟩ = some (.string p1) ∧ w'.cell? ⟨G, 1, none⟩ = some (.int .i64 1) ∧ w'.cell? ⟨G, 2, none⟩ = some (.int .i64 8)) (first | assumption | exact Hp.all (by assumption) | exact (Hp.drew (by assumption)).all | exact (Hp.after (by assumption) (by assumption)).all) (first | (go_at_call 15; refine (cint_is p1 1 8 v m HV.out HM.out _ z1 (HG1.out.below (Hp.fin (by assumption))) ⟨by decide, by decide⟩).mono ?_; rintro e w2 ⟨rfl, hb2⟩))
          have O2 : Hid (Ow W1 w2) := Hp.fin (by assumption)
          have C2 := Lib.hid (HCP1.out.then O2.out)
          have r0 : w2.cell? ⟨w.heap.size + 1, 6, none⟩ = some (.string p0) := (O2.out.cell (p := ⟨w.heap.size + 1, 6, none⟩) HCP1.out.hlt).trans HT0.out
          have r1 : w2.cell? ⟨G, 0, none⟩ = some (.string ⟨#[114, 101, 103, 105, 115, 116, 101, 114, 115]⟩) := (HBG.out.then O2.out).at (i := 0) rfl
          have r2 : w2.cell? ⟨G, 3, none⟩ = some (.func (.func 76) #[] #[]) := (HBG.out.then O2.out).at (i := 3) rfl
          have x0 : w2.cell? ⟨w.heap.size, 0, none⟩ = some (.int .i64 0) := C2.out.res.at (i := 0) rfl
          have x1 : w2.cell? ⟨w.heap.size, 1, none⟩ = some (.int .i64 0) := C2.out.res.at (i := 1) rfl
          have x2 : w2.cell? ⟨w.heap.size, 2, none⟩ = some (.int .i64 0) := C2.out.res.at (i := 2) rfl
          have x3 : w2.cell? ⟨w.heap.size, 3, none⟩ = some (.int .i64 0) := C2.out.res.at (i := 3) rfl
          have x4 : w2.cell? ⟨w.heap.size, 4, none⟩ = some (.int .i64 0) := C2.out.res.at (i := 4) rfl
          have y0 := C2.out.res.z 0
          have y1 := C2.out.res.z 1
          have y2 := C2.out.res.z 2
          have y3 := C2.out.res.z 3
          have y4 := C2.out.res.z 4
          clear hh hb2
          go_wp2_with fail
          by_cases hw0 : PL.getD 6 [] = cfgWord 3
          · obtain rfl : p0 = ⟨#[114, 101, 103, 105, 115, 116, 101, 114, 115]⟩ := ba_ext (by rw [HP0.out, hw0]; rfl)
            by_cases hd : decimalB (PL.getD 7 []) = true
            · have HOk1 : Hid (okUpto PL 4 = true) := by
                show (okUpto PL 3 && (PL.getD 6 [] == cfgWord 3 && decimalB (PL.getD 7 []))) = true
                rw [HOk.out, hw0, hd, beq_self_eq_true]; rfl
              have HMm : Hid (m = if inW PL 3 then 0 else 7) := by
                rw [Hid, ← HM.out, HP1.out, intE, if_pos hd]
                simp only [inW, numW, cfgLow, cfgHigh, Nat.reduceMul, Nat.reduceAdd, decide_eq_true_eq]
              have em : (m == 6) = false := by rw [beq_eq_false_iff_ne, HMm.out]; split <;> decide
              clear hw0 hd
              go_quiet (fail)
              have O3 := Lib.hid (Ow.drewN (C2.out.old) nq)
              have C3 := Lib.hid (C2.out.then ((Ow.refl _).drewN nq))
              generalize hW3 : w2.drewN nq = w3 at C3 O3 ⊢
              have r3 : w3.cell? ⟨G, 3, none⟩ = some (.func (.func 76) #[] #[]) := by rw [← hW3]; exact r2
              have b0 : w3.cell? ⟨w1.heap.size + 1, 3, none⟩ = some (.int .i64 0) := C3.out.cfg.at (i := 3) rfl
              have z0 := C3.out.cfg.z 3
              clear r0 r1 r2 x0 x1 x2 x3 x4 y0 y1 y2 y3 y4
              go_wp2_with (go_at_call 76; refine (lim_at4 _ _).mono ?_; rintro e w' ⟨rfl, rfl⟩)
              refine ⟨⟨4, by omega, rfl, ⟨_, rfl, ?_⟩, HOk1.out, ?_⟩, by simp [intOf]⟩
              · exact max_in HM0 HMm.out
              · have h := C3.out.set 3 (.int .i64 v)
                have e : (ctCells PL 3).setIfInBounds 3 (.int .i64 v) = ctCells PL 4 := by
                  rw [← HV.out, HP1.out]
                  simp [ctCells, cfgLow, cfgHigh]
                rwa [e] at h
            · have HF := Lib.hid (ct_six (t := s.data.toList) (by rw [HPL.out]; exact ct_dec (k := 3) (by omega) (by simpa using hd)))
              obtain rfl : m = 6 := by rw [← HM.out, HP1.out, intE, if_neg hd]
              clear hw0 hd
              go_quiet (fail)
              go_wp2
              have BR : Hid (Bx w.heap.size cfg0 45 ((((((w2.drewN nq).setCell ⟨w.heap.size, 0, none⟩ (.int .i64 0)).setCell ⟨w.heap.size, 1, none⟩ (.int .i64 0)).setCell ⟨w.heap.size, 2, none⟩ (.int .i64 0)).setCell ⟨w.heap.size, 3, none⟩ (.int .i64 0)).setCell ⟨w.heap.size, 4, none⟩ (.int .i64 0))) := (((((C2.out.res.then ((Ow.refl _).drewN nq)).set 0 _).set 1 _).set 2 _).set 3 _).set 4 _
              have OR : Hid (Ow w ((((((w2.drewN nq).setCell ⟨w.heap.size, 0, none⟩ (.int .i64 0)).setCell ⟨w.heap.size, 1, none⟩ (.int .i64 0)).setCell ⟨w.heap.size, 2, none⟩ (.int .i64 0)).setCell ⟨w.heap.size, 3, none⟩ (.int .i64 0)).setCell ⟨w.heap.size, 4, none⟩ (.int .i64 0))) := (((((C2.out.old.drewN nq).set (Nat.le_refl _) 0 _).set (Nat.le_refl _) 1 _).set (Nat.le_refl _) 2 _).set (Nat.le_refl _) 3 _).set (Nat.le_refl _) 4 _
              generalize hW9 : (((((w2.drewN nq).setCell ⟨w.heap.size, 0, none⟩ (.int .i64 0)).setCell ⟨w.heap.size, 1, none⟩ (.int .i64 0)).setCell ⟨w.heap.size, 2, none⟩ (.int .i64 0)).setCell ⟨w.heap.size, 3, none⟩ (.int .i64 0)).setCell ⟨w.heap.size, 4, none⟩ (.int .i64 0) = W9 at BR OR ⊢
              exact cfg_ret BR.out rfl rfl (by unfold CtPost; rw [HF.out.1, HF.out.2, HF.out.2, HF.out.2, HF.out.2, HF.out.2]; exact ⟨rfl, OR.out⟩)
          · have HF := Lib.hid (ct_six (t := s.data.toList) (by rw [HPL.out]; exact ct_word (k := 3) (by omega) hw0))
            have en : (p0.toList == [114, 101, 103, 105, 115, 116, 101, 114, 115]) = false := by rw [ba_toList, beq_eq_false_iff_ne, HP0.out]; exact hw0
            clear hw0
            go_quiet (fail)
            go_wp2
            have BR : Hid (Bx w.heap.size cfg0 45 ((((((w2.drewN nq).setCell ⟨w.heap.size, 0, none⟩ (.int .i64 0)).setCell ⟨w.heap.size, 1, none⟩ (.int .i64 0)).setCell ⟨w.heap.size, 2, none⟩ (.int .i64 0)).setCell ⟨w.heap.size, 3, none⟩ (.int .i64 0)).setCell ⟨w.heap.size, 4, none⟩ (.int .i64 0))) := (((((C2.out.res.then ((Ow.refl _).drewN nq)).set 0 _).set 1 _).set 2 _).set 3 _).set 4 _
            have OR : Hid (Ow w ((((((w2.drewN nq).setCell ⟨w.heap.size, 0, none⟩ (.int .i64 0)).setCell ⟨w.heap.size, 1, none⟩ (.int .i64 0)).setCell ⟨w.heap.size, 2, none⟩ (.int .i64 0)).setCell ⟨w.heap.size, 3, none⟩ (.int .i64 0)).setCell ⟨w.heap.size, 4, none⟩ (.int .i64 0))) := (((((C2.out.old.drewN nq).set (Nat.le_refl _) 0 _).set (Nat.le_refl _) 1 _).set (Nat.le_refl _) 2 _).set (Nat.le_refl _) 3 _).set (Nat.le_refl _) 4 _
            generalize hW9 : (((((w2.drewN nq).setCell ⟨w.heap.size, 0, none⟩ (.int .i64 0)).setCell ⟨w.heap.size, 1, none⟩ (.int .i64 0)).setCell ⟨w.heap.size, 2, none⟩ (.int .i64 0)).setCell ⟨w.heap.size, 3, none⟩ (.int .i64 0)).setCell ⟨w.heap.size, 4, none⟩ (.int .i64 0) = W9 at BR OR ⊢
            exact cfg_ret BR.out rfl rfl (by unfold CtPost; rw [HF.out.1, HF.out.2, HF.out.2, HF.out.2, HF.out.2, HF.out.2]; exact ⟨rfl, OR.out⟩)
        · obtain ⟨p0, hp0⟩ : ∃ p : ByteArray, p.data.toList = PL.getD 8 [] := ⟨⟨(PL.getD 8 []).toArray⟩, rfl⟩
          obtain ⟨p1, hp1⟩ : ∃ p : ByteArray, p.data.toList = PL.getD 9 [] := ⟨⟨(PL.getD 9 []).toArray⟩, rfl⟩
          have g0 := getD_at (L := PL) (i := 8) (d := []) (by rw [HN.out]; omega)
          have g1 := getD_at (L := PL) (i := 9) (d := []) (by rw [HN.out]; omega)
          have s0 : wr.cell? ⟨w.heap.size + 1, 8, none⟩ = some (.string p0) := by rw [HCp.out.str 8 _ g0.1, ← hp0, ba_mk]
          have s1 : wr.cell? ⟨w.heap.size + 1, 9, none⟩ = some (.string p1) := by rw [HCp.out.str 9 _ g1.1, ← hp1, ba_mk]
          have z1 : p1.size ≤ 9000 := by rw [← ba_len, hp1]; exact HSz.out _ g1.2
          have l0 : wr.cell? ⟨w1.heap.size, 16, none⟩ = some (.string ⟨#[112, 111, 112, 117, 108, 97, 114]⟩) := HCp.out.lim.at (i := 16) rfl
          have l1 : wr.cell? ⟨w1.heap.size, 17, none⟩ = some (.int .i64 2) := HCp.out.lim.at (i := 17) rfl
          have l2 : wr.cell? ⟨w1.heap.size, 18, none⟩ = some (.int .i64 16) := HCp.out.lim.at (i := 18) rfl
          have l3 : wr.cell? ⟨w1.heap.size, 19, none⟩ = some (.func (.func 77) #[] #[]) := HCp.out.lim.at (i := 19) rfl
          obtain ⟨v, hv⟩ : ∃ v, intV (PL.getD 9 []) 2 16 = v := ⟨_, rfl⟩
          obtain ⟨m, hm⟩ : ∃ m, intE (PL.getD 9 []) 2 16 = m := ⟨_, rfl⟩
          have HP0 := Lib.hid hp0
          have HP1 := Lib.hid hp1
          have HV : Hid (intV p1.data.toList 2 16 = v) := by rw [Hid, hp1, hv]
          have HM : Hid (intE p1.data.toList 2 16 = m) := by rw [Hid, hp1, hm]
          clear hp0 hp1 hv hm g0 g1 hk h5
          have q1 : IntKind.i64.wrap 8 = 8 := by decide
          have q2 : IntKind.i64.wrap (8 + 1) = 9 := by decide
          have q3 : IntKind.i64.wrap 9 = 9 := by decide
          go_wp2_with fail
          have HBG : Hid (Bx wr.heap.size #[.string ⟨#[112, 111, 112, 117, 108, 97, 114]⟩, .int .i64 2, .int .i64 16, .func (.func 77) #[] #[]] 96 (wr.alloc (.cells #[.string ⟨#[112, 111, 112, 117, 108, 97, 114]⟩, .int .i64 2, .int .i64 16, .func (.func 77) #[] #[]] 96))) := Bx.new _ _ _
          have HCP1 : Hid (CP w w.heap.size (w.heap.size + 1) w1.heap.size (w1.heap.size + 1) PL (ctCells PL 4) (wr.alloc (.cells #[.string ⟨#[112, 111, 112, 117, 108, 97, 114]⟩, .int .i64 2, .int .i64 16, .func (.func 77) #[] #[]] 96))) := HCp.out.then ((Ow.refl _).alloc _)
          have t1 : (wr.alloc (.cells #[.string ⟨#[112, 111, 112, 117, 108, 97, 114]⟩, .int .i64 2, .int .i64 16, .func (.func 77) #[] #[]] 96)).cell? ⟨w.heap.size + 1, 9, none⟩ = some (.string p1) := (World.cell?_alloc_lt _ _ _ HCp.out.hlt).trans s1
          have t0 : (wr.alloc (.cells #[.string ⟨#[112, 111, 112, 117, 108, 97, 114]⟩, .int .i64 2, .int .i64 16, .func (.func 77) #[] #[]] 96)).cell? ⟨w.heap.size + 1, 8, none⟩ = some (.string p0) := (World.cell?_alloc_lt _ _ _ HCp.out.hlt).trans s0
          clear l0 l1 l2 l3 s0 s1
          generalize hG : wr.heap.size = G at HBG ⊢
          generalize hW1 : wr.alloc (.cells #[.string ⟨#[112, 111, 112, 117, 108, 97, 114]⟩, .int .i64 2, .int .i64 16, .func (.func 77) #[] #[]] 96) = W1 at HBG HCP1 t0 t1 ⊢
          have HT0 := Lib.hid t0
          have HG1 := Lib.hid (HG.out.below HCP1.out.old)
          have hh := Hp.all (show Hp W1 (w.heap.size + 1) 9 G p1 2 16 W1 from ⟨Ow.refl _, HCP1.out.hlt, HBG.out.lt, t1, HBG.out.at (i := 1) rfl, HBG.out.at (i := 2) rfl⟩)
          clear t0 t1
          go_region_held3 (fun w' => Hp W1 (w.heap.size + 1) 9 G p1 2 16 w' ∧ w'.cell? ⟨w.heap.size + 1, 9, none⟩ = some (.string p1) ∧ w'.cell? ⟨G, 1, none⟩ = some (.int .i64 2) ∧ w'.cell? ⟨G, 2, none⟩ = some (.int .i64 16)) (first | assumption | exact Hp.all (by assumption) | exact (Hp.drew (by assumption)).all | exact (Hp.after (by assumption) (by assumption)).all) (first | (go_at_call 15; refine (cint_is p1 2 16 v m HV.out HM.out _ z1 (HG1.out.below (Hp.fin (by assumption))) ⟨by decide, by decide⟩).mono ?_; rintro e w2 ⟨rfl, hb2⟩))
          have O2 : Hid (Ow W1 w2) := Hp.fin (by assumption)
          have C2 := Lib.hid (HCP1.out.then O2.out)
          have r0 : w2.cell? ⟨w.heap.size + 1, 8, none⟩ = some (.string p0) := (O2.out.cell (p := ⟨w.heap.size + 1, 8, none⟩) HCP1.out.hlt).trans HT0.out
          have r1 : w2.cell? ⟨G, 0, none⟩ = some (.string ⟨#[112, 111, 112, 117, 108, 97, 114]⟩) := (HBG.out.then O2.out).at (i := 0) rfl
          have r2 : w2.cell? ⟨G, 3, none⟩ = some (.func (.func 77) #[] #[]) := (HBG.out.then O2.out).at (i := 3) rfl
          have x0 : w2.cell? ⟨w.heap.size, 0, none⟩ = some (.int .i64 0) := C2.out.res.at (i := 0) rfl
          have x1 : w2.cell? ⟨w.heap.size, 1, none⟩ = some (.int .i64 0) := C2.out.res.at (i := 1) rfl
          have x2 : w2.cell? ⟨w.heap.size, 2, none⟩ = some (.int .i64 0) := C2.out.res.at (i := 2) rfl
          have x3 : w2.cell? ⟨w.heap.size, 3, none⟩ = some (.int .i64 0) := C2.out.res.at (i := 3) rfl
          have x4 : w2.cell? ⟨w.heap.size, 4, none⟩ = some (.int .i64 0) := C2.out.res.at (i := 4) rfl
          have y0 := C2.out.res.z 0
          have y1 := C2.out.res.z 1
          have y2 := C2.out.res.z 2
          have y3 := C2.out.res.z 3
          have y4 := C2.out.res.z 4
          clear hh hb2
          go_wp2_with fail
          by_cases hw0 : PL.getD 8 [] = cfgWord 4
          · obtain rfl : p0 = ⟨#[112, 111, 112, 117, 108, 97, 114]⟩ := ba_ext (by rw [HP0.out, hw0]; rfl)
            by_cases hd : decimalB (PL.getD 9 []) = true
            · have HOk1 : Hid (okUpto PL 5 = true) := by
                show (okUpto PL 4 && (PL.getD 8 [] == cfgWord 4 && decimalB (PL.getD 9 []))) = true
                rw [HOk.out, hw0, hd, beq_self_eq_true]; rfl
              have HMm : Hid (m = if inW PL 4 then 0 else 7) := by
                rw [Hid, ← HM.out, HP1.out, intE, if_pos hd]
                simp only [inW, numW, cfgLow, cfgHigh, Nat.reduceMul, Nat.reduceAdd, decide_eq_true_eq]
              have em : (m == 6) = false := by rw [beq_eq_false_iff_ne, HMm.out]; split <;> decide
              clear hw0 hd
              go_quiet (fail)
              have O3 := Lib.hid (Ow.drewN (C2.out.old) nq)
              have C3 := Lib.hid (C2.out.then ((Ow.refl _).drewN nq))
              generalize hW3 : w2.drewN nq = w3 at C3 O3 ⊢
              have r3 : w3.cell? ⟨G, 3, none⟩ = some (.func (.func 77) #[] #[]) := by rw [← hW3]; exact r2
              have b0 : w3.cell? ⟨w1.heap.size + 1, 4, none⟩ = some (.int .i64 0) := C3.out.cfg.at (i := 4) rfl
              have z0 := C3.out.cfg.z 4
              clear r0 r1 r2 x0 x1 x2 x3 x4 y0 y1 y2 y3 y4
              go_wp2_with (go_at_call 77; refine (lim_at5 _ _).mono ?_; rintro e w' ⟨rfl, rfl⟩)
              refine ⟨⟨5, by omega, rfl, ⟨_, rfl, ?_⟩, HOk1.out, ?_⟩, by simp [intOf]⟩
              · exact max_in HM0 HMm.out
              · have h := C3.out.set 4 (.int .i64 v)
                have e : (ctCells PL 4).setIfInBounds 4 (.int .i64 v) = ctCells PL 5 := by
                  rw [← HV.out, HP1.out]
                  simp [ctCells, cfgLow, cfgHigh]
                rwa [e] at h
            · have HF := Lib.hid (ct_six (t := s.data.toList) (by rw [HPL.out]; exact ct_dec (k := 4) (by omega) (by simpa using hd)))
              obtain rfl : m = 6 := by rw [← HM.out, HP1.out, intE, if_neg hd]
              clear hw0 hd
              go_quiet (fail)
              go_wp2
              have BR : Hid (Bx w.heap.size cfg0 45 ((((((w2.drewN nq).setCell ⟨w.heap.size, 0, none⟩ (.int .i64 0)).setCell ⟨w.heap.size, 1, none⟩ (.int .i64 0)).setCell ⟨w.heap.size, 2, none⟩ (.int .i64 0)).setCell ⟨w.heap.size, 3, none⟩ (.int .i64 0)).setCell ⟨w.heap.size, 4, none⟩ (.int .i64 0))) := (((((C2.out.res.then ((Ow.refl _).drewN nq)).set 0 _).set 1 _).set 2 _).set 3 _).set 4 _
              have OR : Hid (Ow w ((((((w2.drewN nq).setCell ⟨w.heap.size, 0, none⟩ (.int .i64 0)).setCell ⟨w.heap.size, 1, none⟩ (.int .i64 0)).setCell ⟨w.heap.size, 2, none⟩ (.int .i64 0)).setCell ⟨w.heap.size, 3, none⟩ (.int .i64 0)).setCell ⟨w.heap.size, 4, none⟩ (.int .i64 0))) := (((((C2.out.old.drewN nq).set (Nat.le_refl _) 0 _).set (Nat.le_refl _) 1 _).set (Nat.le_refl _) 2 _).set (Nat.le_refl _) 3 _).set (Nat.le_refl _) 4 _
              generalize hW9 : (((((w2.drewN nq).setCell ⟨w.heap.size, 0, none⟩ (.int .i64 0)).setCell ⟨w.heap.size, 1, none⟩ (.int .i64 0)).setCell ⟨w.heap.size, 2, none⟩ (.int .i64 0)).setCell ⟨w.heap.size, 3, none⟩ (.int .i64 0)).setCell ⟨w.heap.size, 4, none⟩ (.int .i64 0) = W9 at BR OR ⊢
              exact cfg_ret BR.out rfl rfl (by unfold CtPost; rw [HF.out.1, HF.out.2, HF.out.2, HF.out.2, HF.out.2, HF.out.2]; exact ⟨rfl, OR.out⟩)
          · have HF := Lib.hid (ct_six (t := s.data.toList) (by rw [HPL.out]; exact ct_word (k := 4) (by omega) hw0))
            have en : (p0.toList == [112, 111, 112, 117, 108, 97, 114]) = false := by rw [ba_toList, beq_eq_false_iff_ne, HP0.out]; exact hw0
            clear hw0
            go_quiet (fail)
            go_wp2
            have BR : Hid (Bx w.heap.size cfg0 45 ((((((w2.drewN nq).setCell ⟨w.heap.size, 0, none⟩ (.int .i64 0)).setCell ⟨w.heap.size, 1, none⟩ (.int .i64 0)).setCell ⟨w.heap.size, 2, none⟩ (.int .i64 0)).setCell ⟨w.heap.size, 3, none⟩ (.int .i64 0)).setCell ⟨w.heap.size, 4, none⟩ (.int .i64 0))) := (((((C2.out.res.then ((Ow.refl _).drewN nq)).set 0 _).set 1 _).set 2 _).set 3 _).set 4 _
            have OR : Hid (Ow w ((((((w2.drewN nq).setCell ⟨w.heap.size, 0, none⟩ (.int .i64 0)).setCell ⟨w.heap.size, 1, none⟩ (.int .i64 0)).setCell ⟨w.heap.size, 2, none⟩ (.int .i64 0)).setCell ⟨w.heap.size, 3, none⟩ (.int .i64 0)).setCell ⟨w.heap.size, 4, none⟩ (.int .i64 0))) := (((((C2.out.old.drewN nq).set (Nat.le_refl _) 0 _).set (Nat.le_refl _) 1 _).set (Nat.le_refl _) 2 _).set (Nat.le_refl _) 3 _).set (Nat.le_refl _) 4 _
            generalize hW9 : (((((w2.drewN nq).setCell ⟨w.heap.size, 0, none⟩ (.int .i64 0)).setCell ⟨w.heap.size, 1, none⟩ (.int .i64 0)).setCell ⟨w.heap.size, 2, none⟩ (.int .i64 0)).setCell ⟨w.heap.size, 3, none⟩ (.int .i64 0)).setCell ⟨w.heap.size, 4, none⟩ (.int .i64 0) = W9 at BR OR ⊢
            exact cfg_ret BR.out rfl rfl (by unfold CtPost; rw [HF.out.1, HF.out.2, HF.out.2, HF.out.2, HF.out.2, HF.out.2]; exact ⟨rfl, OR.out⟩)
  · have HF := Lib.hid (ct_len (t := s.data.toList) (by rw [HPL.out, hn]; exact h10))
    have e10 : ((n : Int) != 10) = true := by rw [bne_iff_ne]; omega
    have HN := Lib.hid hn
    clear hn h10
    go_enter Tryz.func20, Tryz.ntmps20
    go_wp2_with fail
    (go_at_call 34; refine (split_isN s 32 PL HPL.out n HN.out _ (by omega) (HG.out.below HA.out)).mono ?_; rintro e w1 ⟨rfl, hst, hb1⟩)
    have O1 := Lib.hid (HA.out.then hb1)
    have X1 := Lib.hid (HX.out.then hb1)
    clear hst hb1
    go_wp2_with fail
    (go_at_call 48; refine (limits_any _).mono ?_; rintro e w2 ⟨rfl, hw2⟩)
    have O2 : Hid (Ow w w2) := by rw [hw2]; exact O1.out.alloc _
    have X2 : Hid (Bx w.heap.size cfg0 45 w2) := by rw [hw2]; exact X1.out.alloc _
    have x0 : w2.cell? ⟨w.heap.size, 0, none⟩ = some (.int .i64 0) := X2.out.at (i := 0) rfl
    have x1 : w2.cell? ⟨w.heap.size, 1, none⟩ = some (.int .i64 0) := X2.out.at (i := 1) rfl
    have x2 : w2.cell? ⟨w.heap.size, 2, none⟩ = some (.int .i64 0) := X2.out.at (i := 2) rfl
    have x3 : w2.cell? ⟨w.heap.size, 3, none⟩ = some (.int .i64 0) := X2.out.at (i := 3) rfl
    have x4 : w2.cell? ⟨w.heap.size, 4, none⟩ = some (.int .i64 0) := X2.out.at (i := 4) rfl
    have y0 := X2.out.z 0
    have y1 := X2.out.z 1
    have y2 := X2.out.z 2
    have y3 := X2.out.z 3
    have y4 := X2.out.z 4
    clear hw2
    go_wp2
    have BR : Hid (Bx w.heap.size cfg0 45 (((((w2.setCell ⟨w.heap.size, 0, none⟩ (.int .i64 0)).setCell ⟨w.heap.size, 1, none⟩ (.int .i64 0)).setCell ⟨w.heap.size, 2, none⟩ (.int .i64 0)).setCell ⟨w.heap.size, 3, none⟩ (.int .i64 0)).setCell ⟨w.heap.size, 4, none⟩ (.int .i64 0))) := ((((X2.out.set 0 _).set 1 _).set 2 _).set 3 _).set 4 _
    have OR : Hid (Ow w (((((w2.setCell ⟨w.heap.size, 0, none⟩ (.int .i64 0)).setCell ⟨w.heap.size, 1, none⟩ (.int .i64 0)).setCell ⟨w.heap.size, 2, none⟩ (.int .i64 0)).setCell ⟨w.heap.size, 3, none⟩ (.int .i64 0)).setCell ⟨w.heap.size, 4, none⟩ (.int .i64 0))) := ((((O2.out.set (Nat.le_refl _) 0 _).set (Nat.le_refl _) 1 _).set (Nat.le_refl _) 2 _).set (Nat.le_refl _) 3 _).set (Nat.le_refl _) 4 _
    generalize hW9 : (((w2.setCell ⟨w.heap.size, 0, none⟩ (.int .i64 0)).setCell ⟨w.heap.size, 1, none⟩ (.int .i64 0)).setCell ⟨w.heap.size, 2, none⟩ (.int .i64 0)).setCell ⟨w.heap.size, 3, none⟩ (.int .i64 0) = W9 at BR OR ⊢
    exact cfg_ret BR.out rfl rfl (by unfold CtPost; rw [HF.out.1, HF.out.2, HF.out.2, HF.out.2, HF.out.2, HF.out.2]; exact ⟨rfl, OR.out⟩)
end Go.Proofs.YtabopillicdjaaaGreatDoor

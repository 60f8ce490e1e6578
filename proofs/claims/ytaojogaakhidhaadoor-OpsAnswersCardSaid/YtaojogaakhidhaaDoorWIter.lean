/- Package words: the iterator over the fields of a line. -/
import Derived.Test.YtaojogaakhidhaaDoorWScope
import Derived.Test.YtaojogaakhidhaaDoorWBare
import Derived.Test.YtaojogaakhidhaaDoorWJoin
import Derived.Outline
namespace Go.Proofs.YtaojogaakhidhaaDoor
open Go.RowKit
open Wd (bareB fieldAt word unq unqS unqN)
attribute [local go_sem] Oper.semAt_some

abbrev Fl := (List UInt8 × Bool) × Bool
def encF (x : List UInt8 × Bool) : Value := .agg #[.string ⟨x.1.toArray⟩, .bool x.2]
def encs2 (x : Fl) : Array Value := #[.agg #[.string ⟨x.1.1.toArray⟩, .bool x.1.2], .bool x.2]
/-- What the iterator produces. -/
def itF : Nat → List UInt8 → List Fl
  | 0, _ => []
  | f + 1, l => match fieldAt l with
    | none => [(([], false), false)]
    | some (x, n) => if l.drop n = [] then [(x, true)] else if (l.drop n).head? = some 32 then (x, true) :: itF f (l.drop (n + 1)) else [(([], false), false)]
def itL (l : List UInt8) : List Fl := itF (l.length + 1) l
theorem itF_same : ∀ (f g : Nat) (l : List UInt8), l.length < f → l.length < g → itF f l = itF g l
  | 0, _, l, h, _ => absurd h (Nat.not_lt_zero _)
  | _, 0, l, _, h => absurd h (Nat.not_lt_zero _)
  | f + 1, g + 1, l, hf, hg => by
    unfold itF
    cases hd : fieldAt l with
    | none => rfl
    | some p =>
      obtain ⟨x, n⟩ := p
      have := Wd.field_pos hd
      simp only
      by_cases he : l.drop n = []
      · rw [if_pos he, if_pos he]
      · have hl : 0 < (l.drop n).length := List.length_pos_iff.2 he
        rw [List.length_drop] at hl
        rw [if_neg he, if_neg he, itF_same f g (l.drop (n + 1)) (by simp; omega) (by simp; omega)]
theorem it_no {l : List UInt8} (h : fieldAt l = none) : itL l = [(([], false), false)] := by unfold itL itF; rw [h]
theorem it_last {l : List UInt8} {x : List UInt8 × Bool} {n : Nat} (h : fieldAt l = some (x, n)) (he : l.drop n = []) : itL l = [(x, true)] := by
  unfold itL itF; rw [h]; simp only; rw [if_pos he]
theorem it_bad {l : List UInt8} {x : List UInt8 × Bool} {n : Nat} (h : fieldAt l = some (x, n)) (he : l.drop n ≠ []) (hh : (l.drop n).head? ≠ some 32) : itL l = [(([], false), false)] := by
  unfold itL itF; rw [h]; simp only; rw [if_neg he, if_neg hh]
theorem it_more {l : List UInt8} {x : List UInt8 × Bool} {n : Nat} (h : fieldAt l = some (x, n)) (he : l.drop n ≠ []) (hh : (l.drop n).head? = some 32) : itL l = (x, true) :: itL (l.drop (n + 1)) := by
  have := Wd.field_pos h
  have hl : 0 < (l.drop n).length := List.length_pos_iff.2 he
  rw [List.length_drop] at hl
  conv => lhs; unfold itL itF
  rw [h]; simp only; rw [if_neg he, if_pos hh]
  unfold itL
  rw [itF_same l.length ((l.drop (n + 1)).length + 1) (l.drop (n + 1)) (by simp; omega) (by omega)]

theorem tw_self {p : UInt8 → Bool} : ∀ {l : List UInt8}, (∀ x ∈ l, p x = true) → l.takeWhile p = l
  | [], _ => rfl
  | a :: l, h => by rw [List.takeWhile_cons, if_pos (h a (by simp)), tw_self (fun x hx => h x (by simp [hx]))]
theorem cut_word (l : List UInt8) : (Lib.cut l [32]).1 = word l := by
  unfold Lib.cut
  rcases Lib.index_spec l [32] with ⟨h1, h2⟩ | ⟨i, h1, h2, h3, h4⟩
  · rw [h1, if_neg (by omega)]
    have : ∀ x ∈ l, (x != 32) = true := fun x hx => by
      rw [bne_iff_ne]; intro e; subst e
      obtain ⟨j, hj, e⟩ := List.getElem_of_mem hx
      have := h2 j (by omega)
      rw [(Wd.occ_one l 32 j).2 (List.getElem?_eq_some_iff.2 ⟨hj, e⟩)] at this
      cases this
    exact (tw_self this).symm
  · have hi := (Wd.occ_one l 32 i).1 h3
    have hno : ∀ x ∈ l.take i, x ≠ 32 := Wd.take_no (fun j hj e => by
      have := h4 j hj
      rw [(Wd.occ_one l 32 j).2 e] at this
      cases this)
    rw [h1, if_pos (by omega)]
    show l.take i = l.takeWhile (· != 32)
    conv => rhs; rw [Wd.mem_split_at hi]
    rw [List.takeWhile_append_of_pos (fun x hx => by rw [bne_iff_ne]; exact hno x hx)]
    simp
theorem cutW (r wd : ByteArray) (h : wd.data.toList = word r.data.toList) (w : World) (hs : r.size ≤ 9000) (hg : Gl w) :
    Calls Tryd.prog 36 #[.string r, .string ⟨#[32]⟩] w fun e w' => (∃ (b2 : ByteArray) (bb : Bool), e = .returned (.tuple #[.string wd, .string b2, .bool bb])) ∧ Ow w w' := by
  obtain ⟨m, hm⟩ := hg.max
  refine (Tryd.strings_Cut r ⟨#[32]⟩ m w (by omega) hm).mono fun e1 w1 ⟨h1, h2⟩ => ⟨⟨⟨(Lib.cut r.data.toList [32]).2.1.toArray⟩, (Lib.cut r.data.toList [32]).2.2, ?_⟩, (Ow.refl w).drawn h2⟩
  rw [h1]
  show Ending.returned (.tuple #[.string ⟨(Lib.cut r.data.toList [32]).1.toArray⟩, _, _]) = _
  rw [cut_word, ← h, ba_mk]
theorem isBare_is (s : ByteArray) (b : Bool) (h : bareB s.data.toList = b) (w : World) (hs : s.size ≤ 9000) :
    Calls Tryd.prog 62 #[.string s] w fun e w' => e = .returned (.bool b) ∧ Ow w w' := by
  have := isBare_any s w hs
  unfold BPost at this
  rwa [h] at this

/-- The iterator's own block: the field that it hands on. -/
def Fb (b : Nat) (S : ByteArray) (q : Bool) (w : World) : Prop := w.heap[b]? = some (.cells #[.string S, .bool q] 60 (0, 0))
theorem Fb.new (w : World) : Fb w.heap.size ⟨#[]⟩ false (w.alloc (.cells #[.string ⟨#[]⟩, .bool false] 60)) := heap_alloc_new _ _
theorem Fb.then {b : Nat} {S : ByteArray} {q : Bool} {w w' : World} (h : Fb b S q w) (hb : Ow w w') : Fb b S q w' := (hb.block b (Array.getElem?_eq_some_iff.1 h).1).trans h
theorem Fb.setS {b : Nat} {S : ByteArray} {q : Bool} {w : World} (h : Fb b S q w) (S' : ByteArray) : Fb b S' q (w.setCell ⟨b, 0, none⟩ (.string S')) := heap_setCell_same w b 0 _ _ _ h
theorem Fb.setQ {b : Nat} {S : ByteArray} {q : Bool} {w : World} (h : Fb b S q w) (q' : Bool) : Fb b S q' (w.setCell ⟨b, 1, none⟩ (.bool q')) := heap_setCell_same w b 1 _ _ _ h
theorem Fb.lt {b : Nat} {S : ByteArray} {q : Bool} {w : World} (h : Fb b S q w) : b < w.heap.size := (Array.getElem?_eq_some_iff.1 h).1
theorem Fb.c0 {b : Nat} {S : ByteArray} {q : Bool} {w : World} (h : Fb b S q w) : w.cell? ⟨b, 0, none⟩ = some (.string S) := by rw [cell_of_row _ _ 0 _ _ _ h]; rfl
theorem Fb.c1 {b : Nat} {S : ByteArray} {q : Bool} {w : World} (h : Fb b S q w) : w.cell? ⟨b, 1, none⟩ = some (.bool q) := by rw [cell_of_row _ _ 1 _ _ _ h]; rfl
theorem Fb.z {b : Nat} {S : ByteArray} {q : Bool} {w : World} (h : Fb b S q w) (i : Nat) : w.frozen? ⟨b, i, none⟩ = false := by simp only [World.frozen?, show w.heap[b]? = _ from h]; simp
theorem grown_row {W w1 : World} (h : Ow W w1) (row : Option Nat) : W.grownBy w1 row := ⟨h.os, h.tape, h.output, h.size, fun k hk _ => h.block k hk⟩
theorem grown_set (W : World) (b i : Nat) (v : Value) : W.grownBy (W.setCell ⟨b, i, none⟩ v) (some b) :=
  ⟨rfl, rfl, rfl, by simp [World.setCell], fun k _ h => Below.heap_setCell _ _ _ _ (by simpa using h)⟩
/-- What stands at a label. -/
structure It (s : ByteArray) (n₀ b : Nat) (W : World) (J : Nat → List Fl → World → Prop) (pre : List Fl) (r S : ByteArray) (q : Bool) (w : World) : Prop where
  eq : itL s.data.toList = pre ++ itL r.data.toList
  len : pre.length + r.size ≤ s.size
  box : Fb b S q w
  jj : J b pre w
  low : Below n₀ W w

/-- What holds at a jump to label 1 (a field begins) and to label 0 (it has been read). -/
def Jmp (s : ByteArray) (l Bn n₀ : Nat) (W : World) (J : Nat → List Fl → World → Prop) (lab : Nat) (a : Act) (w : World) : Prop :=
  (lab = 1 ∧ ∃ (pre : List Fl) (r S : ByteArray) (q : Bool) (u5 u2 u6 u7 u8 u9 u10 u11 u12 u13 u14 u15 u16 u17 u18 u19 u20 u21 u22 u23 u24 u25 u26 u27 u28 u29 u30 u31 u32 u33 u34 u35 u36 u37 u38 u39 u40 u41 u42 u43 u44 u45 u46 u47 u48 u49 u50 u51 u52 u53 u54 u55 u56 : Value), a = { tmps := #[.func (Fn.yield l) #[] #[], .pointer (some ⟨Bn, 0, none⟩), u2, .string r, .pointer (some ⟨W.heap.size, 0, none⟩), u5, u6, u7, u8, u9, u10, u11, u12, u13, u14, u15, u16, u17, u18, u19, u20, u21, u22, u23, u24, u25, u26, u27, u28, u29, u30, u31, u32, u33, u34, u35, u36, u37, u38, u39, u40, u41, u42, u43, u44, u45, u46, u47, u48, u49, u50, u51, u52, u53, u54, u55, u56], defers := [] } ∧ It s n₀ W.heap.size W J pre r S q w) ∨
  (lab = 0 ∧ ∃ (pre : List Fl) (r S : ByteArray) (q : Bool) (n : Nat) (u2 u6 u7 u8 u9 u10 u11 u12 u13 u14 u15 u16 u17 u18 u19 u20 u21 u22 u23 u24 u25 u26 u27 u28 u29 u30 u31 u32 u33 u34 u35 u36 u37 u38 u39 u40 u41 u42 u43 u44 u45 u46 u47 u48 u49 u50 u51 u52 u53 u54 u55 u56 : Value), a = { tmps := #[.func (Fn.yield l) #[] #[], .pointer (some ⟨Bn, 0, none⟩), u2, .string r, .pointer (some ⟨W.heap.size, 0, none⟩), .int .i64 (n : Int), u6, u7, u8, u9, u10, u11, u12, u13, u14, u15, u16, u17, u18, u19, u20, u21, u22, u23, u24, u25, u26, u27, u28, u29, u30, u31, u32, u33, u34, u35, u36, u37, u38, u39, u40, u41, u42, u43, u44, u45, u46, u47, u48, u49, u50, u51, u52, u53, u54, u55, u56], defers := [] } ∧ It s n₀ W.heap.size W J pre r S q w ∧ fieldAt r.data.toList = some ((S.data.toList, q), n))
def strLen : Value → Nat | .string s => s.size | _ => 0
def mu (lab : Nat) (a : Act) (_ : World) : Nat := 2 * strLen (a.tmps.getD 3 undef) + lab

set_option maxRecDepth 100000 in
set_option maxHeartbeats 8000000 in
theorem fields_seq (m : Nat) (hm : 2 ≤ m) (s : ByteArray) (hs : s.size ≤ 9000) (w : World) (Bn : Nat) (hBn : Bn < w.heap.size) (hline : w.cell? ⟨Bn, 0, none⟩ = some (.string s)) (n₀ : Nat) (hn0 : n₀ ≤ w.heap.size) (hgl : ∀ w', Below n₀ w w' → Gl w') :
    SeqB m Tryd.prog 60 #[.pointer (some ⟨Bn, 0, none⟩)] encs2 n₀ (fun xs => xs = itL s.data.toList) (fun pre => pre <+: itL s.data.toList) 9001 w := by
  intro l J Jx W hW hJ hJx hY h0
  have hcell : W.cell? ⟨Bn, 0, none⟩ = some (.string s) := (hW.cell hBn).trans hline
  have HGl : Hid (∀ w', Below n₀ W w' → Gl w') := fun w' h => hgl w' ((hW.mono hn0).trans h)
  have HJ := Lib.hid hJ
  have HY := Lib.hid hY
  have H0 := Lib.hid h0
  have HW := Lib.hid hW
  have hn1 : n₀ ≤ W.heap.size := Nat.le_trans hn0 hW.size
  have hm1 : 1 ≤ m := by omega
  clear hgl hJ hY h0 hW hline hn0
  refine callsIn_of_wp Tryd.func60 rfl trivial ?_ rfl
  simp only [Tryd.ntmps60, List.size_toArray, List.length_cons, List.length_nil, Nat.reduceAdd, Nat.reduceSub, Array.replicate_succ, Array.replicate_zero, List.push_toArray, List.append_toArray, List.nil_append, List.cons_append]
  gi_wp2
  refine wpIn_scope_jumps (Jmp s l Bn n₀ W J) mu ?first ?pass
  case first =>
    gi_wp2
    refine wpIn_label ?_
    have HI : Hid (It s n₀ W.heap.size W J [] s ⟨#[]⟩ false (W.alloc (.cells #[.string ⟨#[]⟩, .bool false] 60))) :=
      ⟨rfl, by simp, Fb.new W, HJ.out _ _ _ _ (Nat.le_refl _) (H0.out _ (Nat.le_refl _)) (World.grownBy_alloc _ _ _), (Below.refl _ _).alloc hn1 _⟩
    generalize W.alloc (.cells #[.string ⟨#[]⟩, .bool false] 60) = wr at HI ⊢
    have hrs : s.size ≤ 9000 := by have := HI.out.len; omega
    have HGr : Hid (Gl wr) := HGl.out _ HI.out.low
    obtain ⟨t, ht⟩ : ∃ t, unqS s.data.toList = t := ⟨_, rfl⟩
    obtain ⟨n, hn⟩ : ∃ n, unqN s.data.toList = n := ⟨_, rfl⟩
    have HT := Lib.hid ht
    have HN := Lib.hid hn
    clear ht hn
    have hz : W.heap.size < wr.heap.size := (Array.getElem?_eq_some_iff.1 HI.out.box).1
    by_cases hn0 : n = 0
    · have HU : Hid (unq s.data.toList = none) := by
        cases hu : unq s.data.toList with
        | none => rfl
        | some p => have := (Wd.unqN_some (s := p.1) (n := p.2) hu).1; have := (Wd.unq_pos (s := p.1) (n := p.2) hu).1; rw [HN.out] at *; omega
      subst hn0
      obtain ⟨wd, hwd⟩ : ∃ wd : ByteArray, wd.data.toList = word s.data.toList := ⟨⟨(word s.data.toList).toArray⟩, rfl⟩
      have HWd := Lib.hid hwd
      have hws : wd.size ≤ 9000 := by rw [← ba_len, hwd]; exact Nat.le_trans (Wd.word_le _) (by rw [ba_len]; exact hrs)
      clear hwd
      have HG2 : ∀ w2, Ow wr w2 → Gl (((w2.setCell ⟨W.heap.size, 0, none⟩ (.string ⟨t.toArray⟩)).setCell ⟨W.heap.size, 1, none⟩ (.bool false))) := fun w2 hb2 => HGl.out _ (((HI.out.low.trans (hb2.mono (Nat.le_trans hn1 (Nat.le_of_lt hz)))).setCell (p := ⟨W.heap.size, 0, none⟩) hn1 _).setCell (p := ⟨W.heap.size, 1, none⟩) hn1 _)
      have HG2' := Lib.hid HG2
      clear HG2
      cases hbb : bareB wd.data.toList with
      | false =>
        have HB := Lib.hid hbb
        have hitl := it_no (l := s.data.toList) (by simp only [fieldAt, HU.out, ← HWd.out, hbb]; rfl)
        have HA : Hid (itL s.data.toList = [] ++ [(([], false), false)]) := by rw [Hid, HI.out.eq, hitl]
        clear hbb hitl
        gi_wp2_with (first
          | (refine ⟨trivial, ?_⟩; gi_at_call 61; refine (callsIn_wide.2 (unquote_is _ _ _ HT.out HN.out _ hrs HGr.out)).mono ?_; rintro e w2 ⟨rfl, hb2⟩; have X2 := Lib.hid (Fb.then HI.out.box hb2); have c0 := X2.out.c0; have c1 := X2.out.c1; have z0 := X2.out.z 0; have z1 := X2.out.z 1; have hz2 : W.heap.size < w2.heap.size := Nat.lt_of_lt_of_le hz hb2.size)
          | (refine ⟨trivial, ?_⟩; gi_at_call 36; refine (callsIn_wide.2 (cutW _ _ HWd.out _ hrs (HG2'.out _ hb2))).mono ?_; rintro e w3 ⟨⟨b2, bb, rfl⟩, hb3⟩; have X3 := Lib.hid (Fb.then ((X2.out.setS ⟨t.toArray⟩).setQ false) hb3); have c0 := X3.out.c0; have c1 := X3.out.c1; have z0 := X3.out.z 0; have z1 := X3.out.z 1; have hz3 : W.heap.size < w3.heap.size := (Array.getElem?_eq_some_iff.1 X3.out).1)
          | (refine ⟨trivial, ?_⟩; gi_at_call 62; refine (callsIn_wide.2 (isBare_is _ _ HB.out _ hws)).mono ?_; rintro e w4 ⟨rfl, hb4⟩; have X4 := Lib.hid ((X3.out.setS wd).then hb4); have hz4 : W.heap.size < w4.heap.size := X4.out.lt; obtain ⟨fn, tmps, assign, body, hy, hR⟩ := HY.out _ [] (([], false), false) w4 (Nat.le_refl _) hz4 (HJ.out _ _ _ _ (Nat.le_refl _) (HJ.out _ _ _ _ (Nat.le_refl _) (HJ.out _ _ _ _ (Nat.le_refl _) (HJ.out _ _ _ _ (Nat.le_refl _) (HJ.out _ _ _ _ (Nat.le_refl _) (HJ.out _ _ _ _ (Nat.le_refl _) HI.out.jj (grown_row hb2 _)) (grown_set _ _ _ _)) (grown_set _ _ _ _)) (grown_row hb3 _)) (grown_set _ _ _ _)) (grown_row hb4 _)) (by have := HI.out.len; omega); have HR := Lib.hid hR; simp only [encs2] at hy; clear hR))
        refine HR.out.mono ?_
        rintro e W3 (⟨rfl, hJ3, hk3⟩ | ⟨rfl, hJx3⟩)
        · gi_wp2
          simp only [jumps]
          refine bodyPost_ret (results_none rfl _ _ _) rfl ?_
          exact ⟨⟨_, rfl⟩, .inl ⟨_, _, HA.out.symm, hJ3⟩⟩
        · gi_wp2
          simp only [jumps]
          refine bodyPost_ret (results_none rfl _ _ _) rfl ?_
          exact ⟨⟨_, rfl⟩, .inr ⟨_, _, by rw [HA.out]; exact List.prefix_refl _, hJx3⟩⟩
      | true =>
        have HB := Lib.hid hbb
        have HFd : Hid (fieldAt s.data.toList = some ((wd.data.toList, false), wd.size)) := by simp only [Hid, fieldAt, HU.out, ← HWd.out, hbb, if_true, ba_len]
        clear hbb
        gi_wp2_with (first
          | (refine ⟨trivial, ?_⟩; gi_at_call 61; refine (callsIn_wide.2 (unquote_is _ _ _ HT.out HN.out _ hrs HGr.out)).mono ?_; rintro e w2 ⟨rfl, hb2⟩; have X2 := Lib.hid (Fb.then HI.out.box hb2); have c0 := X2.out.c0; have c1 := X2.out.c1; have z0 := X2.out.z 0; have z1 := X2.out.z 1; have hz2 : W.heap.size < w2.heap.size := Nat.lt_of_lt_of_le hz hb2.size)
          | (refine ⟨trivial, ?_⟩; gi_at_call 36; refine (callsIn_wide.2 (cutW _ _ HWd.out _ hrs (HG2'.out _ hb2))).mono ?_; rintro e w3 ⟨⟨b2, bb, rfl⟩, hb3⟩; have X3 := Lib.hid (Fb.then ((X2.out.setS ⟨t.toArray⟩).setQ false) hb3); have c0 := X3.out.c0; have c1 := X3.out.c1; have z0 := X3.out.z 0; have z1 := X3.out.z 1; have hz3 : W.heap.size < w3.heap.size := (Array.getElem?_eq_some_iff.1 X3.out).1)
          | (refine ⟨trivial, ?_⟩; gi_at_call 62; refine (callsIn_wide.2 (isBare_is _ _ HB.out _ hws)).mono ?_; rintro e w4 ⟨rfl, hb4⟩))
        refine wpIn_label ?_
        have HI2 : Hid (It s n₀ W.heap.size W J [] s wd false w4) := ⟨HI.out.eq, HI.out.len, (X3.out.setS wd).then hb4, (HJ.out _ _ _ _ (Nat.le_refl _) (HJ.out _ _ _ _ (Nat.le_refl _) (HJ.out _ _ _ _ (Nat.le_refl _) (HJ.out _ _ _ _ (Nat.le_refl _) (HJ.out _ _ _ _ (Nat.le_refl _) (HJ.out _ _ _ _ (Nat.le_refl _) HI.out.jj (grown_row hb2 _)) (grown_set _ _ _ _)) (grown_set _ _ _ _)) (grown_row hb3 _)) (grown_set _ _ _ _)) (grown_row hb4 _)), ((((((HI.out.low.trans (hb2.mono (Nat.le_trans hn1 (Nat.le_of_lt hz)))).setCell (p := ⟨W.heap.size, 0, none⟩) hn1 _).setCell (p := ⟨W.heap.size, 1, none⟩) hn1 _).trans (hb3.mono (by have := X2.out.lt; simp; omega))).setCell (p := ⟨W.heap.size, 0, none⟩) hn1 _).trans (hb4.mono (by simp; omega)))⟩
        clear HI
        have HI := HI2
        clear HI2 c0 c1 z0 z1 HB HG2' X2 X3 hb2 hb3 hb4 hz2 hz3 HU HGr
        have hp1 := (Wd.field_pos HFd.out).1
        have hp2 := (Wd.field_pos HFd.out).2
        rw [ba_len] at hp2
        have HX : Hid ((s.extract wd.size s.size).data.toList = s.data.toList.drop wd.size) := Lib.extract_to_end s wd.size
        have hxs : (s.extract wd.size s.size).size = s.size - wd.size := by rw [← ba_len, HX.out, List.length_drop, ba_len]
        have HXs := Lib.hid hxs
        have hbx : W.heap.size < w4.heap.size := (Array.getElem?_eq_some_iff.1 HI.out.box).1
        have c0 := HI.out.box.c0
        have c1 := HI.out.box.c1
        by_cases hend : wd.size = s.size
        · have HE : Hid (s.data.toList.drop wd.size = []) := List.drop_eq_nil_iff.2 (by rw [ba_len]; omega)
          have e0 := ba_empty (s := (s.extract wd.size s.size)) (by omega)
          have hitl := it_last HFd.out HE.out
          have HA : Hid (itL s.data.toList = [] ++ [((wd.data.toList, false), true)]) := by rw [Hid, HI.out.eq, hitl]
          clear hxs hitl hend
          obtain ⟨fn, tmps, assign, body, hy, hR⟩ := HY.out _ [] ((wd.data.toList, false), true) w4 (Nat.le_refl _) (Array.getElem?_eq_some_iff.1 HI.out.box).1 HI.out.jj (by have := HI.out.len; omega)
          have HR := Lib.hid hR
          simp only [encs2, ba_mk] at hy
          clear hR
          gi_wp2
          refine HR.out.mono ?_
          rintro e W3 (⟨rfl, hJ3, hk3⟩ | ⟨rfl, hJx3⟩)
          · gi_wp2
            simp only [jumps]
            refine bodyPost_ret (results_none rfl _ _ _) rfl ?_
            exact ⟨⟨_, rfl⟩, .inl ⟨_, _, HA.out.symm, hJ3⟩⟩
          · gi_wp2
            simp only [jumps]
            refine bodyPost_ret (results_none rfl _ _ _) rfl ?_
            exact ⟨⟨_, rfl⟩, .inr ⟨_, _, by rw [HA.out]; exact List.prefix_refl _, hJx3⟩⟩
        · have hx0 : 0 < (s.extract wd.size s.size).size := by omega
          have e0 := ba_full hx0
          have HE : Hid (s.data.toList.drop wd.size = (s.extract wd.size s.size)[0] :: s.data.toList.drop (wd.size + 1)) := by
            have := ba_cons (s.extract wd.size s.size) hx0
            rw [HX.out, List.drop_drop] at this
            exact this
          have hend' : wd.size < s.size := by omega
          obtain ⟨c, hc⟩ : ∃ c : Nat, (s.extract wd.size s.size)[0].toNat = c := ⟨_, rfl⟩
          have HC := Lib.hid hc
          by_cases h32 : c = 32
          · have hhd : (s.data.toList.drop wd.size).head? = some 32 := by
              rw [HE.out]; simp only [List.head?_cons, Option.some.injEq]; apply UInt8.toNat_inj.1; rw [HC.out, h32]; rfl
            have hitl := it_more HFd.out (by rw [HE.out]; simp) hhd
            have HA : Hid (itL s.data.toList = ([] ++ [((wd.data.toList, false), true)]) ++ itL (s.data.toList.drop (wd.size + 1))) := by rw [Hid, HI.out.eq, hitl]; simp
            clear hitl hhd hend
            obtain ⟨fn, tmps, assign, body, hy, hR⟩ := HY.out _ [] ((wd.data.toList, false), true) w4 (Nat.le_refl _) (Array.getElem?_eq_some_iff.1 HI.out.box).1 HI.out.jj (by have := HI.out.len; omega)
            have HR := Lib.hid hR
            simp only [encs2, ba_mk] at hy
            subst h32
            clear hR hxs
            gi_wp2
            refine HR.out.mono ?_
            rintro e W3 (⟨rfl, hJ3, hk3⟩ | ⟨rfl, hJx3⟩)
            · gi_wp2
              have HX2 : ((s.extract wd.size s.size).extract 1 (s.size - wd.size)).data.toList = s.data.toList.drop (wd.size + 1) := by rw [← HXs.out, Lib.extract_to_end, HX.out, List.drop_drop]
              have hx2 : ((s.extract wd.size s.size).extract 1 (s.size - wd.size)).size = s.size - wd.size - 1 := by rw [← ba_len, HX2, List.length_drop, ba_len]; omega
              have hnew : It s n₀ W.heap.size W J ([] ++ [((wd.data.toList, false), true)]) ((s.extract wd.size s.size).extract 1 (s.size - wd.size)) wd false W3 :=
                ⟨by rw [HX2]; exact HA.out, by have := HI.out.len; simp only [List.length_append, List.length_singleton]; omega, hk3.2.trans HI.out.box, hJ3, HI.out.low.trans hk3.1⟩
              refine wpIn_goto ?_
              exact .inl ⟨rfl, _, _, _, _, _, _, _, _, _, _, _, _, _, _, _, _, _, _, _, _, _, _, _, _, _, _, _, _, _, _, _, _, _, _, _, _, _, _, _, _, _, _, _, _, _, _, _, _, _, _, _, _, _, _, _, _, _, rfl, hnew⟩
            · gi_wp2
              simp only [jumps]
              refine bodyPost_ret (results_none rfl _ _ _) rfl ?_
              exact ⟨⟨_, rfl⟩, .inr ⟨_, _, by rw [HA.out]; exact List.prefix_append _ _, hJx3⟩⟩
          · have hhd : (s.data.toList.drop wd.size).head? ≠ some 32 := by
              rw [HE.out]; intro e; simp only [List.head?_cons, Option.some.injEq] at e; apply h32; rw [← HC.out, e]; rfl
            have hitl := it_bad HFd.out (by rw [HE.out]; simp) hhd
            have HA : Hid (itL s.data.toList = [] ++ [(([], false), false)]) := by rw [Hid, HI.out.eq, hitl]
            have e32 : ((c : Int) != 32) = true := by rw [bne_iff_ne]; omega
            clear hitl hhd hend h32
            obtain ⟨fn, tmps, assign, body, hy, hR⟩ := HY.out _ [] (([], false), false) w4 (Nat.le_refl _) (Array.getElem?_eq_some_iff.1 HI.out.box).1 HI.out.jj (by have := HI.out.len; omega)
            have HR := Lib.hid hR
            simp only [encs2] at hy
            clear hR hxs
            gi_wp2
            refine HR.out.mono ?_
            rintro e W3 (⟨rfl, hJ3, hk3⟩ | ⟨rfl, hJx3⟩)
            · gi_wp2
              simp only [jumps]
              refine bodyPost_ret (results_none rfl _ _ _) rfl ?_
              exact ⟨⟨_, rfl⟩, .inl ⟨_, _, HA.out.symm, hJ3⟩⟩
            · gi_wp2
              simp only [jumps]
              refine bodyPost_ret (results_none rfl _ _ _) rfl ?_
              exact ⟨⟨_, rfl⟩, .inr ⟨_, _, by rw [HA.out]; exact List.prefix_refl _, hJx3⟩⟩
    · have hpos : (0 : Int) < (n : Int) := by omega
      have HF : Hid (fieldAt s.data.toList = some ((t, true), n)) := by
        cases hu : unq s.data.toList with
        | none => have := (Wd.unqN_none hu).1; rw [HN.out] at this; exact absurd this hn0
        | some p =>
          obtain ⟨e1, e2⟩ := Wd.unqN_some (s := p.1) (n := p.2) hu
          rw [HN.out] at e1; rw [HT.out] at e2
          simp only [Hid, fieldAt, hu, e1, e2]
      clear hn0
      gi_wp2_with ((refine ⟨trivial, ?_⟩; gi_at_call 61; refine (callsIn_wide.2 (unquote_is _ _ _ HT.out HN.out _ hrs HGr.out)).mono ?_; rintro e w2 ⟨rfl, hb2⟩; have X2 := Lib.hid (Fb.then HI.out.box hb2); have c0 := X2.out.c0; have c1 := X2.out.c1; have z0 := X2.out.z 0; have z1 := X2.out.z 1; have hz2 : W.heap.size < w2.heap.size := Nat.lt_of_lt_of_le hz hb2.size))
      refine wpIn_goto ?_
      exact .inr ⟨rfl, _, s, ⟨t.toArray⟩, true, n, _, _, _, _, _, _, _, _, _, _, _, _, _, _, _, _, _, _, _, _, _, _, _, _, _, _, _, _, _, _, _, _, _, _, _, _, _, _, _, _, _, _, _, _, _, _, _, _, _, _, _, _, rfl, ⟨HI.out.eq, HI.out.len, (X2.out.setS ⟨t.toArray⟩).setQ true, (HJ.out _ _ _ _ (Nat.le_refl _) (HJ.out _ _ _ _ (Nat.le_refl _) (HJ.out _ _ _ _ (Nat.le_refl _) HI.out.jj (grown_row hb2 _)) (grown_set _ _ _ _)) (grown_set _ _ _ _)), (((HI.out.low.trans (hb2.mono (Nat.le_trans hn1 (Nat.le_of_lt hz)))).setCell (p := ⟨W.heap.size, 0, none⟩) hn1 _).setCell (p := ⟨W.heap.size, 1, none⟩) hn1 _)⟩, HF.out⟩
  case pass =>
    rintro lab a w0 (⟨rfl, pre, r, S, q, u5, u2, u6, u7, u8, u9, u10, u11, u12, u13, u14, u15, u16, u17, u18, u19, u20, u21, u22, u23, u24, u25, u26, u27, u28, u29, u30, u31, u32, u33, u34, u35, u36, u37, u38, u39, u40, u41, u42, u43, u44, u45, u46, u47, u48, u49, u50, u51, u52, u53, u54, u55, u56, rfl, hit⟩ | ⟨rfl, pre, r, S, q, n, u2, u6, u7, u8, u9, u10, u11, u12, u13, u14, u15, u16, u17, u18, u19, u20, u21, u22, u23, u24, u25, u26, u27, u28, u29, u30, u31, u32, u33, u34, u35, u36, u37, u38, u39, u40, u41, u42, u43, u44, u45, u46, u47, u48, u49, u50, u51, u52, u53, u54, u55, u56, rfl, hit, hfd⟩)
    · have HI := Lib.hid hit
      clear hit
      refine ⟨_, rfl, wpIn_seq (wpIn_skip ?_)⟩
      generalize w0 = wr at HI ⊢
      have hrs : r.size ≤ 9000 := by have := HI.out.len; omega
      have HGr : Hid (Gl wr) := HGl.out _ HI.out.low
      obtain ⟨t, ht⟩ : ∃ t, unqS r.data.toList = t := ⟨_, rfl⟩
      obtain ⟨n, hn⟩ : ∃ n, unqN r.data.toList = n := ⟨_, rfl⟩
      have HT := Lib.hid ht
      have HN := Lib.hid hn
      clear ht hn
      have hz : W.heap.size < wr.heap.size := (Array.getElem?_eq_some_iff.1 HI.out.box).1
      by_cases hn0 : n = 0
      · have HU : Hid (unq r.data.toList = none) := by
          cases hu : unq r.data.toList with
          | none => rfl
          | some p => have := (Wd.unqN_some (s := p.1) (n := p.2) hu).1; have := (Wd.unq_pos (s := p.1) (n := p.2) hu).1; rw [HN.out] at *; omega
        subst hn0
        obtain ⟨wd, hwd⟩ : ∃ wd : ByteArray, wd.data.toList = word r.data.toList := ⟨⟨(word r.data.toList).toArray⟩, rfl⟩
        have HWd := Lib.hid hwd
        have hws : wd.size ≤ 9000 := by rw [← ba_len, hwd]; exact Nat.le_trans (Wd.word_le _) (by rw [ba_len]; exact hrs)
        clear hwd
        have HG2 : ∀ w2, Ow wr w2 → Gl (((w2.setCell ⟨W.heap.size, 0, none⟩ (.string ⟨t.toArray⟩)).setCell ⟨W.heap.size, 1, none⟩ (.bool false))) := fun w2 hb2 => HGl.out _ (((HI.out.low.trans (hb2.mono (Nat.le_trans hn1 (Nat.le_of_lt hz)))).setCell (p := ⟨W.heap.size, 0, none⟩) hn1 _).setCell (p := ⟨W.heap.size, 1, none⟩) hn1 _)
        have HG2' := Lib.hid HG2
        clear HG2
        cases hbb : bareB wd.data.toList with
        | false =>
          have HB := Lib.hid hbb
          have hitl := it_no (l := r.data.toList) (by simp only [fieldAt, HU.out, ← HWd.out, hbb]; rfl)
          have HA : Hid (itL s.data.toList = pre ++ [(([], false), false)]) := by rw [Hid, HI.out.eq, hitl]
          clear hbb hitl
          gi_wp2_with (first
            | (refine ⟨trivial, ?_⟩; gi_at_call 61; refine (callsIn_wide.2 (unquote_is _ _ _ HT.out HN.out _ hrs HGr.out)).mono ?_; rintro e w2 ⟨rfl, hb2⟩; have X2 := Lib.hid (Fb.then HI.out.box hb2); have c0 := X2.out.c0; have c1 := X2.out.c1; have z0 := X2.out.z 0; have z1 := X2.out.z 1; have hz2 : W.heap.size < w2.heap.size := Nat.lt_of_lt_of_le hz hb2.size)
            | (refine ⟨trivial, ?_⟩; gi_at_call 36; refine (callsIn_wide.2 (cutW _ _ HWd.out _ hrs (HG2'.out _ hb2))).mono ?_; rintro e w3 ⟨⟨b2, bb, rfl⟩, hb3⟩; have X3 := Lib.hid (Fb.then ((X2.out.setS ⟨t.toArray⟩).setQ false) hb3); have c0 := X3.out.c0; have c1 := X3.out.c1; have z0 := X3.out.z 0; have z1 := X3.out.z 1; have hz3 : W.heap.size < w3.heap.size := (Array.getElem?_eq_some_iff.1 X3.out).1)
            | (refine ⟨trivial, ?_⟩; gi_at_call 62; refine (callsIn_wide.2 (isBare_is _ _ HB.out _ hws)).mono ?_; rintro e w4 ⟨rfl, hb4⟩; have X4 := Lib.hid ((X3.out.setS wd).then hb4); have hz4 : W.heap.size < w4.heap.size := X4.out.lt; obtain ⟨fn, tmps, assign, body, hy, hR⟩ := HY.out _ pre (([], false), false) w4 (Nat.le_refl _) hz4 (HJ.out _ _ _ _ (Nat.le_refl _) (HJ.out _ _ _ _ (Nat.le_refl _) (HJ.out _ _ _ _ (Nat.le_refl _) (HJ.out _ _ _ _ (Nat.le_refl _) (HJ.out _ _ _ _ (Nat.le_refl _) (HJ.out _ _ _ _ (Nat.le_refl _) HI.out.jj (grown_row hb2 _)) (grown_set _ _ _ _)) (grown_set _ _ _ _)) (grown_row hb3 _)) (grown_set _ _ _ _)) (grown_row hb4 _)) (by have := HI.out.len; omega); have HR := Lib.hid hR; simp only [encs2] at hy; clear hR))
          refine HR.out.mono ?_
          rintro e W3 (⟨rfl, hJ3, hk3⟩ | ⟨rfl, hJx3⟩)
          · gi_wp2
            simp only [jumps]
            refine bodyPost_ret (results_none rfl _ _ _) rfl ?_
            exact ⟨⟨_, rfl⟩, .inl ⟨_, _, HA.out.symm, hJ3⟩⟩
          · gi_wp2
            simp only [jumps]
            refine bodyPost_ret (results_none rfl _ _ _) rfl ?_
            exact ⟨⟨_, rfl⟩, .inr ⟨_, _, by rw [HA.out]; exact List.prefix_refl _, hJx3⟩⟩
        | true =>
          have HB := Lib.hid hbb
          have HFd : Hid (fieldAt r.data.toList = some ((wd.data.toList, false), wd.size)) := by simp only [Hid, fieldAt, HU.out, ← HWd.out, hbb, if_true, ba_len]
          clear hbb
          gi_wp2_with (first
            | (refine ⟨trivial, ?_⟩; gi_at_call 61; refine (callsIn_wide.2 (unquote_is _ _ _ HT.out HN.out _ hrs HGr.out)).mono ?_; rintro e w2 ⟨rfl, hb2⟩; have X2 := Lib.hid (Fb.then HI.out.box hb2); have c0 := X2.out.c0; have c1 := X2.out.c1; have z0 := X2.out.z 0; have z1 := X2.out.z 1; have hz2 : W.heap.size < w2.heap.size := Nat.lt_of_lt_of_le hz hb2.size)
            | (refine ⟨trivial, ?_⟩; gi_at_call 36; refine (callsIn_wide.2 (cutW _ _ HWd.out _ hrs (HG2'.out _ hb2))).mono ?_; rintro e w3 ⟨⟨b2, bb, rfl⟩, hb3⟩; have X3 := Lib.hid (Fb.then ((X2.out.setS ⟨t.toArray⟩).setQ false) hb3); have c0 := X3.out.c0; have c1 := X3.out.c1; have z0 := X3.out.z 0; have z1 := X3.out.z 1; have hz3 : W.heap.size < w3.heap.size := (Array.getElem?_eq_some_iff.1 X3.out).1)
            | (refine ⟨trivial, ?_⟩; gi_at_call 62; refine (callsIn_wide.2 (isBare_is _ _ HB.out _ hws)).mono ?_; rintro e w4 ⟨rfl, hb4⟩))
          refine wpIn_label ?_
          have HI2 : Hid (It s n₀ W.heap.size W J pre r wd false w4) := ⟨HI.out.eq, HI.out.len, (X3.out.setS wd).then hb4, (HJ.out _ _ _ _ (Nat.le_refl _) (HJ.out _ _ _ _ (Nat.le_refl _) (HJ.out _ _ _ _ (Nat.le_refl _) (HJ.out _ _ _ _ (Nat.le_refl _) (HJ.out _ _ _ _ (Nat.le_refl _) (HJ.out _ _ _ _ (Nat.le_refl _) HI.out.jj (grown_row hb2 _)) (grown_set _ _ _ _)) (grown_set _ _ _ _)) (grown_row hb3 _)) (grown_set _ _ _ _)) (grown_row hb4 _)), ((((((HI.out.low.trans (hb2.mono (Nat.le_trans hn1 (Nat.le_of_lt hz)))).setCell (p := ⟨W.heap.size, 0, none⟩) hn1 _).setCell (p := ⟨W.heap.size, 1, none⟩) hn1 _).trans (hb3.mono (by have := X2.out.lt; simp; omega))).setCell (p := ⟨W.heap.size, 0, none⟩) hn1 _).trans (hb4.mono (by simp; omega)))⟩
          clear HI
          have HI := HI2
          clear HI2 c0 c1 z0 z1 HB HG2' X2 X3 hb2 hb3 hb4 hz2 hz3 HU HGr
          have hp1 := (Wd.field_pos HFd.out).1
          have hp2 := (Wd.field_pos HFd.out).2
          rw [ba_len] at hp2
          have HX : Hid ((r.extract wd.size r.size).data.toList = r.data.toList.drop wd.size) := Lib.extract_to_end r wd.size
          have hxs : (r.extract wd.size r.size).size = r.size - wd.size := by rw [← ba_len, HX.out, List.length_drop, ba_len]
          have HXs := Lib.hid hxs
          have hbx : W.heap.size < w4.heap.size := (Array.getElem?_eq_some_iff.1 HI.out.box).1
          have c0 := HI.out.box.c0
          have c1 := HI.out.box.c1
          by_cases hend : wd.size = r.size
          · have HE : Hid (r.data.toList.drop wd.size = []) := List.drop_eq_nil_iff.2 (by rw [ba_len]; omega)
            have e0 := ba_empty (s := (r.extract wd.size r.size)) (by omega)
            have hitl := it_last HFd.out HE.out
            have HA : Hid (itL s.data.toList = pre ++ [((wd.data.toList, false), true)]) := by rw [Hid, HI.out.eq, hitl]
            clear hxs hitl hend
            obtain ⟨fn, tmps, assign, body, hy, hR⟩ := HY.out _ pre ((wd.data.toList, false), true) w4 (Nat.le_refl _) (Array.getElem?_eq_some_iff.1 HI.out.box).1 HI.out.jj (by have := HI.out.len; omega)
            have HR := Lib.hid hR
            simp only [encs2, ba_mk] at hy
            clear hR
            gi_wp2
            refine HR.out.mono ?_
            rintro e W3 (⟨rfl, hJ3, hk3⟩ | ⟨rfl, hJx3⟩)
            · gi_wp2
              simp only [jumps]
              refine bodyPost_ret (results_none rfl _ _ _) rfl ?_
              exact ⟨⟨_, rfl⟩, .inl ⟨_, _, HA.out.symm, hJ3⟩⟩
            · gi_wp2
              simp only [jumps]
              refine bodyPost_ret (results_none rfl _ _ _) rfl ?_
              exact ⟨⟨_, rfl⟩, .inr ⟨_, _, by rw [HA.out]; exact List.prefix_refl _, hJx3⟩⟩
          · have hx0 : 0 < (r.extract wd.size r.size).size := by omega
            have e0 := ba_full hx0
            have HE : Hid (r.data.toList.drop wd.size = (r.extract wd.size r.size)[0] :: r.data.toList.drop (wd.size + 1)) := by
              have := ba_cons (r.extract wd.size r.size) hx0
              rw [HX.out, List.drop_drop] at this
              exact this
            have hend' : wd.size < r.size := by omega
            obtain ⟨c, hc⟩ : ∃ c : Nat, (r.extract wd.size r.size)[0].toNat = c := ⟨_, rfl⟩
            have HC := Lib.hid hc
            by_cases h32 : c = 32
            · have hhd : (r.data.toList.drop wd.size).head? = some 32 := by
                rw [HE.out]; simp only [List.head?_cons, Option.some.injEq]; apply UInt8.toNat_inj.1; rw [HC.out, h32]; rfl
              have hitl := it_more HFd.out (by rw [HE.out]; simp) hhd
              have HA : Hid (itL s.data.toList = (pre ++ [((wd.data.toList, false), true)]) ++ itL (r.data.toList.drop (wd.size + 1))) := by rw [Hid, HI.out.eq, hitl]; simp
              clear hitl hhd hend
              obtain ⟨fn, tmps, assign, body, hy, hR⟩ := HY.out _ pre ((wd.data.toList, false), true) w4 (Nat.le_refl _) (Array.getElem?_eq_some_iff.1 HI.out.box).1 HI.out.jj (by have := HI.out.len; omega)
              have HR := Lib.hid hR
              simp only [encs2, ba_mk] at hy
              subst h32
              clear hR hxs
              gi_wp2
              refine HR.out.mono ?_
              rintro e W3 (⟨rfl, hJ3, hk3⟩ | ⟨rfl, hJx3⟩)
              · gi_wp2
                have HX2 : ((r.extract wd.size r.size).extract 1 (r.size - wd.size)).data.toList = r.data.toList.drop (wd.size + 1) := by rw [← HXs.out, Lib.extract_to_end, HX.out, List.drop_drop]
                have hx2 : ((r.extract wd.size r.size).extract 1 (r.size - wd.size)).size = r.size - wd.size - 1 := by rw [← ba_len, HX2, List.length_drop, ba_len]; omega
                have hnew : It s n₀ W.heap.size W J (pre ++ [((wd.data.toList, false), true)]) ((r.extract wd.size r.size).extract 1 (r.size - wd.size)) wd false W3 :=
                  ⟨by rw [HX2]; exact HA.out, by have := HI.out.len; simp only [List.length_append, List.length_singleton]; omega, hk3.2.trans HI.out.box, hJ3, HI.out.low.trans hk3.1⟩
                refine wpIn_goto ?_
                refine ⟨.inl ⟨rfl, _, _, _, _, _, _, _, _, _, _, _, _, _, _, _, _, _, _, _, _, _, _, _, _, _, _, _, _, _, _, _, _, _, _, _, _, _, _, _, _, _, _, _, _, _, _, _, _, _, _, _, _, _, _, _, _, _, rfl, hnew⟩, ?_⟩
                simp [mu, strLen]
                try omega
              · gi_wp2
                simp only [jumps]
                refine bodyPost_ret (results_none rfl _ _ _) rfl ?_
                exact ⟨⟨_, rfl⟩, .inr ⟨_, _, by rw [HA.out]; exact List.prefix_append _ _, hJx3⟩⟩
            · have hhd : (r.data.toList.drop wd.size).head? ≠ some 32 := by
                rw [HE.out]; intro e; simp only [List.head?_cons, Option.some.injEq] at e; apply h32; rw [← HC.out, e]; rfl
              have hitl := it_bad HFd.out (by rw [HE.out]; simp) hhd
              have HA : Hid (itL s.data.toList = pre ++ [(([], false), false)]) := by rw [Hid, HI.out.eq, hitl]
              have e32 : ((c : Int) != 32) = true := by rw [bne_iff_ne]; omega
              clear hitl hhd hend h32
              obtain ⟨fn, tmps, assign, body, hy, hR⟩ := HY.out _ pre (([], false), false) w4 (Nat.le_refl _) (Array.getElem?_eq_some_iff.1 HI.out.box).1 HI.out.jj (by have := HI.out.len; omega)
              have HR := Lib.hid hR
              simp only [encs2] at hy
              clear hR hxs
              gi_wp2
              refine HR.out.mono ?_
              rintro e W3 (⟨rfl, hJ3, hk3⟩ | ⟨rfl, hJx3⟩)
              · gi_wp2
                simp only [jumps]
                refine bodyPost_ret (results_none rfl _ _ _) rfl ?_
                exact ⟨⟨_, rfl⟩, .inl ⟨_, _, HA.out.symm, hJ3⟩⟩
              · gi_wp2
                simp only [jumps]
                refine bodyPost_ret (results_none rfl _ _ _) rfl ?_
                exact ⟨⟨_, rfl⟩, .inr ⟨_, _, by rw [HA.out]; exact List.prefix_refl _, hJx3⟩⟩
      · have hpos : (0 : Int) < (n : Int) := by omega
        have HF : Hid (fieldAt r.data.toList = some ((t, true), n)) := by
          cases hu : unq r.data.toList with
          | none => have := (Wd.unqN_none hu).1; rw [HN.out] at this; exact absurd this hn0
          | some p =>
            obtain ⟨e1, e2⟩ := Wd.unqN_some (s := p.1) (n := p.2) hu
            rw [HN.out] at e1; rw [HT.out] at e2
            simp only [Hid, fieldAt, hu, e1, e2]
        clear hn0
        gi_wp2_with ((refine ⟨trivial, ?_⟩; gi_at_call 61; refine (callsIn_wide.2 (unquote_is _ _ _ HT.out HN.out _ hrs HGr.out)).mono ?_; rintro e w2 ⟨rfl, hb2⟩; have X2 := Lib.hid (Fb.then HI.out.box hb2); have c0 := X2.out.c0; have c1 := X2.out.c1; have z0 := X2.out.z 0; have z1 := X2.out.z 1; have hz2 : W.heap.size < w2.heap.size := Nat.lt_of_lt_of_le hz hb2.size))
        refine wpIn_goto ?_
        refine ⟨.inr ⟨rfl, _, r, ⟨t.toArray⟩, true, n, _, _, _, _, _, _, _, _, _, _, _, _, _, _, _, _, _, _, _, _, _, _, _, _, _, _, _, _, _, _, _, _, _, _, _, _, _, _, _, _, _, _, _, _, _, _, _, _, _, _, _, _, rfl, ⟨HI.out.eq, HI.out.len, (X2.out.setS ⟨t.toArray⟩).setQ true, (HJ.out _ _ _ _ (Nat.le_refl _) (HJ.out _ _ _ _ (Nat.le_refl _) (HJ.out _ _ _ _ (Nat.le_refl _) HI.out.jj (grown_row hb2 _)) (grown_set _ _ _ _)) (grown_set _ _ _ _)), (((HI.out.low.trans (hb2.mono (Nat.le_trans hn1 (Nat.le_of_lt hz)))).setCell (p := ⟨W.heap.size, 0, none⟩) hn1 _).setCell (p := ⟨W.heap.size, 1, none⟩) hn1 _)⟩, HF.out⟩, ?_⟩
        simp [mu, strLen]
        try omega
    · have HI := Lib.hid hit
      have HFd := Lib.hid hfd
      clear hit hfd
      refine ⟨_, rfl, ?_⟩
      have hp1 := (Wd.field_pos HFd.out).1
      have hp2 := (Wd.field_pos HFd.out).2
      rw [ba_len] at hp2
      have HX : Hid ((r.extract n r.size).data.toList = r.data.toList.drop n) := Lib.extract_to_end r n
      have hxs : (r.extract n r.size).size = r.size - n := by rw [← ba_len, HX.out, List.length_drop, ba_len]
      have HXs := Lib.hid hxs
      have hbx : W.heap.size < w0.heap.size := (Array.getElem?_eq_some_iff.1 HI.out.box).1
      have c0 := HI.out.box.c0
      have c1 := HI.out.box.c1
      by_cases hend : n = r.size
      · have HE : Hid (r.data.toList.drop n = []) := List.drop_eq_nil_iff.2 (by rw [ba_len]; omega)
        have e0 := ba_empty (s := (r.extract n r.size)) (by omega)
        have hitl := it_last HFd.out HE.out
        have HA : Hid (itL s.data.toList = pre ++ [((S.data.toList, q), true)]) := by rw [Hid, HI.out.eq, hitl]
        clear hxs hitl hend
        obtain ⟨fn, tmps, assign, body, hy, hR⟩ := HY.out _ pre ((S.data.toList, q), true) w0 (Nat.le_refl _) (Array.getElem?_eq_some_iff.1 HI.out.box).1 HI.out.jj (by have := HI.out.len; omega)
        have HR := Lib.hid hR
        simp only [encs2, ba_mk] at hy
        clear hR
        gi_wp2
        refine HR.out.mono ?_
        rintro e W3 (⟨rfl, hJ3, hk3⟩ | ⟨rfl, hJx3⟩)
        · gi_wp2
          simp only [jumps]
          refine bodyPost_ret (results_none rfl _ _ _) rfl ?_
          exact ⟨⟨_, rfl⟩, .inl ⟨_, _, HA.out.symm, hJ3⟩⟩
        · gi_wp2
          simp only [jumps]
          refine bodyPost_ret (results_none rfl _ _ _) rfl ?_
          exact ⟨⟨_, rfl⟩, .inr ⟨_, _, by rw [HA.out]; exact List.prefix_refl _, hJx3⟩⟩
      · have hx0 : 0 < (r.extract n r.size).size := by omega
        have e0 := ba_full hx0
        have HE : Hid (r.data.toList.drop n = (r.extract n r.size)[0] :: r.data.toList.drop (n + 1)) := by
          have := ba_cons (r.extract n r.size) hx0
          rw [HX.out, List.drop_drop] at this
          exact this
        have hend' : n < r.size := by omega
        obtain ⟨c, hc⟩ : ∃ c : Nat, (r.extract n r.size)[0].toNat = c := ⟨_, rfl⟩
        have HC := Lib.hid hc
        by_cases h32 : c = 32
        · have hhd : (r.data.toList.drop n).head? = some 32 := by
            rw [HE.out]; simp only [List.head?_cons, Option.some.injEq]; apply UInt8.toNat_inj.1; rw [HC.out, h32]; rfl
          have hitl := it_more HFd.out (by rw [HE.out]; simp) hhd
          have HA : Hid (itL s.data.toList = (pre ++ [((S.data.toList, q), true)]) ++ itL (r.data.toList.drop (n + 1))) := by rw [Hid, HI.out.eq, hitl]; simp
          clear hitl hhd hend
          obtain ⟨fn, tmps, assign, body, hy, hR⟩ := HY.out _ pre ((S.data.toList, q), true) w0 (Nat.le_refl _) (Array.getElem?_eq_some_iff.1 HI.out.box).1 HI.out.jj (by have := HI.out.len; omega)
          have HR := Lib.hid hR
          simp only [encs2, ba_mk] at hy
          subst h32
          clear hR hxs
          gi_wp2
          refine HR.out.mono ?_
          rintro e W3 (⟨rfl, hJ3, hk3⟩ | ⟨rfl, hJx3⟩)
          · gi_wp2
            have HX2 : ((r.extract n r.size).extract 1 (r.size - n)).data.toList = r.data.toList.drop (n + 1) := by rw [← HXs.out, Lib.extract_to_end, HX.out, List.drop_drop]
            have hx2 : ((r.extract n r.size).extract 1 (r.size - n)).size = r.size - n - 1 := by rw [← ba_len, HX2, List.length_drop, ba_len]; omega
            have hnew : It s n₀ W.heap.size W J (pre ++ [((S.data.toList, q), true)]) ((r.extract n r.size).extract 1 (r.size - n)) S q W3 :=
              ⟨by rw [HX2]; exact HA.out, by have := HI.out.len; simp only [List.length_append, List.length_singleton]; omega, hk3.2.trans HI.out.box, hJ3, HI.out.low.trans hk3.1⟩
            refine wpIn_goto ?_
            refine ⟨.inl ⟨rfl, _, _, _, _, _, _, _, _, _, _, _, _, _, _, _, _, _, _, _, _, _, _, _, _, _, _, _, _, _, _, _, _, _, _, _, _, _, _, _, _, _, _, _, _, _, _, _, _, _, _, _, _, _, _, _, _, _, rfl, hnew⟩, ?_⟩
            simp [mu, strLen]
            try omega
          · gi_wp2
            simp only [jumps]
            refine bodyPost_ret (results_none rfl _ _ _) rfl ?_
            exact ⟨⟨_, rfl⟩, .inr ⟨_, _, by rw [HA.out]; exact List.prefix_append _ _, hJx3⟩⟩
        · have hhd : (r.data.toList.drop n).head? ≠ some 32 := by
            rw [HE.out]; intro e; simp only [List.head?_cons, Option.some.injEq] at e; apply h32; rw [← HC.out, e]; rfl
          have hitl := it_bad HFd.out (by rw [HE.out]; simp) hhd
          have HA : Hid (itL s.data.toList = pre ++ [(([], false), false)]) := by rw [Hid, HI.out.eq, hitl]
          have e32 : ((c : Int) != 32) = true := by rw [bne_iff_ne]; omega
          clear hitl hhd hend h32
          obtain ⟨fn, tmps, assign, body, hy, hR⟩ := HY.out _ pre (([], false), false) w0 (Nat.le_refl _) (Array.getElem?_eq_some_iff.1 HI.out.box).1 HI.out.jj (by have := HI.out.len; omega)
          have HR := Lib.hid hR
          simp only [encs2] at hy
          clear hR hxs
          gi_wp2
          refine HR.out.mono ?_
          rintro e W3 (⟨rfl, hJ3, hk3⟩ | ⟨rfl, hJx3⟩)
          · gi_wp2
            simp only [jumps]
            refine bodyPost_ret (results_none rfl _ _ _) rfl ?_
            exact ⟨⟨_, rfl⟩, .inl ⟨_, _, HA.out.symm, hJ3⟩⟩
          · gi_wp2
            simp only [jumps]
            refine bodyPost_ret (results_none rfl _ _ _) rfl ?_
            exact ⟨⟨_, rfl⟩, .inr ⟨_, _, by rw [HA.out]; exact List.prefix_refl _, hJx3⟩⟩
end Go.Proofs.YtaojogaakhidhaaDoor

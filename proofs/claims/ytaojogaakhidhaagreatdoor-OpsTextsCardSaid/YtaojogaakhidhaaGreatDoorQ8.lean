/- Slices of operations in memory: rows that the call owns, arguments opened. Slices of strings; strings.Split at one byte. Package words: Lines. -/
import Derived.Test.YtaojogaakhidhaaGreatDoorQ7
import Derived.Test.YtaojogaakhidhaaGreatDoorWByte
import Derived.Test.YtaojogaakhidhaaGreatDoorQ2
import Derived.Test.YtaojogaakhidhaaGreatDoorWJoin
import Derived.Test.YtaojogaakhidhaaGreatDoorShelf
namespace Go.Proofs.YtaojogaakhidhaaGreatDoor
open Go.RowKit Go.ChangeShapes Go.WideShapes Go.Deep
open Sc (OC OA WfC WfA)

theorem Tryz.infoOC : (Tryz.prog.info? 25).map (fun i => (i.zero, i.size, i.bytes)) = some (some (.agg #[.int .i64 0, .int .i64 0, .int .i64 0, .int .i64 0, .int .i64 0, .int .i64 0, .int .u64 0]), 7, 56) := by kernel_rfl
/-- The cells of operations, one behind the other. -/
def cellsO (l : List OC) : List Value := l.flatMap fun c => (ocells c).toList
theorem cellsO_snoc (l : List OC) (c : OC) : cellsO (l ++ [c]) = cellsO l ++ [.int .i64 c.k, .int .i64 c.a, .int .i64 c.b, .int .i64 c.f, .int .i64 c.p, .int .i64 c.r, .int .u64 c.v] := by simp [cellsO, ocells]
theorem cellsO_at : ∀ (l : List OC) (i : Nat) (c : OC), l[i]? = some c → ∀ j, j < 7 → (cellsO l)[i * 7 + j]? = (ocells c)[j]?
  | [], i, c, h, _, _ => by simp at h
  | d :: l, 0, c, h, j, hj => by
    simp only [List.getElem?_cons_zero, Option.some.injEq] at h
    subst h
    have : cellsO (d :: l) = (ocells d).toList ++ cellsO l := by simp [cellsO]
    rw [this, Nat.zero_mul, Nat.zero_add, List.getElem?_append_left (by simpa [ocells] using hj), Array.getElem?_toList]
  | d :: l, i + 1, c, h, j, hj => by
    have e : cellsO (d :: l) = (ocells d).toList ++ cellsO l := by simp [cellsO]
    have hl : (ocells d).toList.length = 7 := rfl
    rw [e, List.getElem?_append_right (by rw [hl]; omega), hl, show (i + 1) * 7 + j - 7 = i * 7 + j by omega]
    exact cellsO_at l i c (by simpa using h) j hj
/-- An operation that lies at a place. -/
structure OcAt (w : World) (g o : Nat) (c : OC) : Prop where
  c0 : w.cell? ⟨g, o, none⟩ = some (.int .i64 c.k)
  c1 : w.cell? ⟨g, o + 1, none⟩ = some (.int .i64 c.a)
  c2 : w.cell? ⟨g, o + 2, none⟩ = some (.int .i64 c.b)
  c3 : w.cell? ⟨g, o + 3, none⟩ = some (.int .i64 c.f)
  c4 : w.cell? ⟨g, o + 4, none⟩ = some (.int .i64 c.p)
  c5 : w.cell? ⟨g, o + 5, none⟩ = some (.int .i64 c.r)
  c6 : w.cell? ⟨g, o + 6, none⟩ = some (.int .u64 c.v)
theorem OcAt.then {w w' : World} {g o : Nat} {c : OC} (h : OcAt w g o c) (hb : Ow w w') : OcAt w' g o c := by
  have hl := lt_of_cell h.c0
  have k : ∀ {j : Nat} {v : Value}, w.cell? ⟨g, j, none⟩ = some v → w'.cell? ⟨g, j, none⟩ = some v := fun {j v} e => (hb.cell (p := ⟨g, j, none⟩) hl).trans e
  exact ⟨k h.c0, k h.c1, k h.c2, k h.c3, k h.c4, k h.c5, k h.c6⟩
/-- A slice of operations, wherever it lies. -/
def OcsA (w : World) (v : Value) (l : List OC) : Prop :=
  (l = [] ∧ ∃ a cap, v = .slice a 0 cap) ∨ (l ≠ [] ∧ ∃ g off cap, v = .slice (some ⟨g, off, none⟩) l.length cap ∧ g < w.heap.size ∧ ∀ (i : Nat) c, l[i]? = some c → OcAt w g (off + i * 7) c)
theorem OcsA.then {w w' : World} {v : Value} {l : List OC} (h : OcsA w v l) (hb : Ow w w') : OcsA w' v l := by
  rcases h with h | ⟨h0, g, off, cap, h1, h2, h3⟩
  · exact .inl h
  · exact .inr ⟨h0, g, off, cap, h1, Nat.lt_of_lt_of_le h2 hb.size, fun i x hx => (h3 i x hx).then hb⟩
theorem ocs_own {w : World} {base : Nat} {v : Value} {l : List OC} (h : w.ownsRow base 25 7 v l.length (cellsO l)) : OcsA w v l := by
  by_cases h0 : l = []
  · subst h0
    refine .inl ⟨rfl, ?_⟩
    rcases Joins.ownsRow_forms h with ⟨rfl, _⟩ | ⟨g, cap, rfl⟩
    · exact ⟨_, _, rfl⟩
    · exact ⟨_, _, rfl⟩
  · rcases Joins.ownsRow_forms h with ⟨rfl, h1⟩ | ⟨g, cap, rfl⟩
    · exact absurd (List.length_eq_zero_iff.1 h1) h0
    · refine .inr ⟨h0, g, 0, cap, rfl, (h.lt g rfl).2, fun i c hc => ?_⟩
      have hi := (List.getElem?_eq_some_iff.1 hc).1
      have k : ∀ j, j < 7 → w.cell? ⟨g, 0 + i * 7 + j, none⟩ = (ocells c)[j]? := fun j hj => by
        rw [Nat.zero_add, h.cellAt (i * 7 + j) (by omega)]
        exact cellsO_at l i c hc j hj
      exact ⟨k 0 (by omega), k 1 (by omega), k 2 (by omega), k 3 (by omega), k 4 (by omega), k 5 (by omega), k 6 (by omega)⟩
theorem spot_plain {w : World} {a : Addr} {v : Value} (h : w.cell? a = some v) : a = ⟨a.block, a.off, none⟩ := by
  unfold World.cell? at h
  split at h
  · split at h
    · cases h
    · rename_i hs
      obtain ⟨b, o, s⟩ := a
      cases s with
      | none => rfl
      | some x => simp at hs
  · cases h
instance : Inhabited OC := ⟨⟨0, 0, 0, 0, 0, 0, 0⟩⟩
set_option maxRecDepth 100000 in
theorem open_ocs {H : Type} {enc : TypeId × Value → H} {w : World} {base : Nat} {spare : Nat → Bool} {held : Bool} {r : Reach} {b0 : Nat} {v : Value} {d : DataW H} {p : List MemPlace}
    (hv : Value.okWide Tryz.prog w r b0 30 v) (h : DataW.Trod enc Tryz.prog w base spare held 30 v d p) : ∃ l : List OC, OcsA w v l ∧ l.length ≤ maxLen ∧ ∀ c ∈ l, WfC c := by
  obtain ⟨a0, len0, cap0, rfl⟩ := okWide_slice Tryz.underlying30 hv
  obtain ⟨fuel, hf⟩ := h
  have h7 : Tryz.prog.cellsOf 25 = 7 := by kernel_rfl
  rcases open_slice Tryz.underlying30 hf with ⟨hcs, _⟩ | ⟨a, len, cap, m, n, D, P0, hcs, _, hl, hm, hmm, _, hx⟩
  · simp only [Value.cells, List.cons.injEq, Value.slice.injEq, and_true] at hcs
    obtain ⟨rfl, rfl, rfl⟩ := hcs
    exact ⟨[], .inl ⟨rfl, _, _, rfl⟩, by simp, by simp⟩
  · simp only [Value.cells, List.cons.injEq, Value.slice.injEq, and_true] at hcs
    obtain ⟨rfl, rfl, rfl⟩ := hcs
    have hlm : len0 ≤ m := by rw [hmm]; split <;> omega
    have each : ∀ i, i < len0 → ∃ c : OC, WfC c ∧ ∀ j, j < 7 → w.cell? (a.add (i * 7 + j)) = (ocells c)[j]? := fun i hi => by
      obtain ⟨cs, h1, h2⟩ := hx i (by omega)
      rw [h7] at h1
      obtain ⟨_, hlen, hcell⟩ := World.cells?_some h1
      obtain ⟨c, e, hw⟩ := oc_of hlen h2
      refine ⟨c, hw, fun j hj => ?_⟩
      have := hcell j hj
      rw [add_add, e, Array.getElem?_toList] at this
      exact this
    obtain ⟨q, hq⟩ := choose_lt each
    refine ⟨(List.range len0).map q, ?_, by rw [List.length_map, List.length_range]; omega, fun c hc => by obtain ⟨i, hi, rfl⟩ := List.mem_map.1 hc; exact (hq i (List.mem_range.1 hi)).1⟩
    by_cases h0 : len0 = 0
    · subst h0
      exact .inl ⟨rfl, _, _, rfl⟩
    · have hc : w.cell? a = some (.int .i64 (q 0).k) := by
        have := (hq 0 (by omega)).2 0 (by omega)
        simpa [Addr.add, ocells] using this
      have ha := spot_plain hc
      generalize hb : a.block = g at ha
      generalize ho : a.off = off at ha
      subst ha
      refine .inr ⟨by simpa using h0, g, off, cap0, by rw [List.length_map, List.length_range], lt_of_cell hc, fun i x hi => ?_⟩
      have hil : i < len0 := by have := (List.getElem?_eq_some_iff.1 hi).1; simpa using this
      have hxe : x = q i := by
        rw [List.getElem?_map, List.getElem?_range hil] at hi
        simpa using hi.symm
      subst hxe
      have k : ∀ j, j < 7 → w.cell? ⟨g, off + i * 7 + j, none⟩ = (ocells (q i))[j]? := fun j hj => by
        rw [← (hq i hil).2 j hj]
        unfold Addr.add
        by_cases hz : i * 7 + j = 0
        · rw [if_pos hz]
          have : off + i * 7 + j = off := by omega
          rw [this]
        · rw [if_neg hz, Nat.add_assoc]
      exact ⟨k 0 (by omega), k 1 (by omega), k 2 (by omega), k 3 (by omega), k 4 (by omega), k 5 (by omega), k 6 (by omega)⟩
end Go.Proofs.YtaojogaakhidhaaGreatDoor
namespace Go.Proofs.YtaojogaakhidhaaGreatDoor
open Go.RowKit
open Wd (partsL)

/-- A slice of strings, wherever it lies. -/
def StrsA (w : World) (v : Value) (L : List (List UInt8)) : Prop :=
  (L = [] ∧ ∃ a cap, v = .slice a 0 cap) ∨ (L ≠ [] ∧ ∃ g off cap, v = .slice (some ⟨g, off, none⟩) L.length cap ∧ g < w.heap.size ∧ ∀ (i : Nat) x, L[i]? = some x → w.cell? ⟨g, off + i, none⟩ = some (.string ⟨x.toArray⟩))
theorem StrsA.then {w w' : World} {v : Value} {L : List (List UInt8)} (h : StrsA w v L) (hb : Ow w w') : StrsA w' v L := by
  rcases h with h | ⟨h0, g, off, cap, h1, h2, h3⟩
  · exact .inl h
  · exact .inr ⟨h0, g, off, cap, h1, Nat.lt_of_lt_of_le h2 hb.size, fun i x hx => (hb.cell (p := ⟨g, off + i, none⟩) h2).trans (h3 i x hx)⟩
theorem strs_own {w : World} {base : Nat} {v : Value} {xs : List ByteArray} {L : List (List UInt8)} (h : w.ownsRow base 9 1 v xs.length (xs.map Value.string)) (hL : xs.map (·.data.toList) = L) : StrsA w v L := by
  subst hL
  rcases Nat.eq_zero_or_pos xs.length with h0 | h0
  · have hx : xs = [] := List.length_eq_zero_iff.1 h0
    subst hx
    refine .inl ⟨rfl, ?_⟩
    rcases Joins.ownsRow_forms h with ⟨rfl, _⟩ | ⟨g, cap, rfl⟩
    · exact ⟨_, _, rfl⟩
    · exact ⟨_, _, rfl⟩
  · obtain ⟨g, cap, rfl, hc, hlt, hcells⟩ := own_strs h h0
    refine .inr ⟨by intro e; rw [List.map_eq_nil_iff] at e; subst e; simp at h0, g, 0, cap, by rw [List.length_map], hlt, fun i x hx => ?_⟩
    rw [List.getElem?_map, Option.map_eq_some_iff] at hx
    obtain ⟨y, hy, rfl⟩ := hx
    rw [hcells i y hy, ba_mk]
/-- strings.Split at one byte. -/
theorem split_is1 (s : ByteArray) (c : UInt8) (L : List (List UInt8)) (hL : partsL c s.data.toList = L) (n : Nat) (hn : L.length = n) (w : World) (hs : s.size ≤ 2000000) (hg : Gl w) :
    Calls Tryz.prog 45 #[.string s, .string ⟨#[c]⟩] w fun e w' => e = .returned (.slice (some ⟨w.heap.size, 0, none⟩) n n) ∧ StrsA w' (.slice (some ⟨w.heap.size, 0, none⟩) n n) L ∧ Ow w w' := by
  subst hn hL
  obtain ⟨m, hm⟩ := hg.max
  have hd : (Lib.splitB ⟨#[c]⟩ 0 (Lib.countB s ⟨#[c]⟩) s).map (·.data.toList) = partsL c s.data.toList := by
    rw [Lib.splitB_data]
    exact Wd.split_parts c s.data.toList
  have hl := Lib.splitB_all ⟨#[c]⟩ (by show 1 ≤ 1; omega) 0 _ s rfl
  have hl2 : Lib.countB s ⟨#[c]⟩ + 1 = (partsL c s.data.toList).length := by rw [← hd, List.length_map, hl]
  refine (Tryz.strings_Split s ⟨#[c]⟩ m w (by omega) hm (by show 1 ≤ 1; omega)).mono fun e w' ⟨h1, h2⟩ => ⟨by rw [h1, hl2], ?_, by rw [h2]; exact (Ow.refl _).alloc _⟩
  subst h2
  refine .inr ⟨Wd.parts_ne _ _, w.heap.size, 0, _, rfl, by simp, fun i x hx => ?_⟩
  rw [cell_of_row _ _ (0 + i) _ _ _ (heap_alloc_new w _), Nat.zero_add]
  rw [← hd, List.getElem?_map, Option.map_eq_some_iff] at hx
  obtain ⟨y, hy, rfl⟩ := hx
  rw [ba_mk]
  simp [hy]
end Go.Proofs.YtaojogaakhidhaaGreatDoor
namespace Go.Proofs.YtaojogaakhidhaaGreatDoor
open Go.RowKit
open Wd (partsL linesE linesS)

theorem suffix_ten (l : List UInt8) : Lib.hasSuffix l [10] = decide (l.getLast? = some 10) := by
  unfold Lib.hasSuffix
  rw [Bool.eq_iff_iff, List.isSuffixOf_iff_suffix, decide_eq_true_eq]
  constructor
  · rintro ⟨t, rfl⟩; simp
  · intro h
    obtain ⟨m, rfl⟩ := List.getLast?_eq_some_iff.1 h
    exact ⟨m, rfl⟩
def LnPost (s : ByteArray) (w : World) (e : Ending) (w' : World) : Prop := ∃ v, e = .returned (.tuple #[v, .int .i64 (linesE s.data.toList)]) ∧ StrsA w' v (linesS s.data.toList) ∧ Ow w w'
theorem lines_no {t : List UInt8} {m : Int} (h : linesE t = m) (hm : m ≠ 0) : linesS t = [] := by unfold linesS; rw [if_neg]; rintro ⟨h1, _⟩; exact hm (h ▸ h1)
theorem ext_last (s : ByteArray) (_h : 0 < s.size) : (s.extract 0 (s.size - 1)).data.toList = s.data.toList.dropLast := by
  rw [List.dropLast_eq_take, ba_len]
  have : (s.extract 0 (s.size - 1)).data.toList = (s.data.toList.drop 0).take (s.size - 1 - 0) := by simp only [ByteArray.data_extract, Array.toList_extract, List.extract_eq_take_drop]
  rw [this]; rfl

theorem suff_is (s : ByteArray) (b : Bool) (h : decide (s.data.toList.getLast? = some 10) = b) (w : World) (hs : s.size ≤ 2000000) : Calls Tryz.prog 44 #[.string s, .string ⟨#[10]⟩] w fun e w' => e = .returned (.bool b) ∧ w = w' := by
  refine (Tryz.strings_HasSuffix s ⟨#[10]⟩ w (by omega)).mono fun e w' ⟨h1, h2⟩ => ⟨?_, h2.symm⟩
  rw [h1]
  exact retB ((suffix_ten _).trans h)
set_option maxRecDepth 100000 in
set_option maxHeartbeats 2000000 in
theorem Lines_any (s : ByteArray) (w : World) (hs : s.size ≤ 2000000) (hg : Gl w) :
    Calls Tryz.prog 22 #[.string s] w (LnPost s w) := by
  have HG := Lib.hid hg
  clear hg
  by_cases hbig : 1048576 < s.size
  · have HE : Hid (linesE s.data.toList = 3) := by rw [Hid, linesE, ba_len, if_pos hbig]
    have e1 : (1048576 : Int) < (s.size : Int) := by omega
    clear hbig
    go_enter Tryz.func22, Tryz.ntmps22
    go_wp2
    go_ret2
    unfold LnPost
    rw [HE.out, lines_no HE.out (by decide)]
    exact ⟨_, rfl, .inl ⟨rfl, _, _, rfl⟩, Ow.refl _⟩
  · have e1 : decide ((1048576 : Int) < (s.size : Int)) = false := decide_eq_false (by omega)
    by_cases h0 : s.size = 0
    · have HE : Hid (linesE s.data.toList = 0 ∧ linesS s.data.toList = []) := by rw [ba_nil h0]; exact ⟨rfl, rfl⟩
      have e0 := ba_empty h0
      clear h0 hbig
      go_enter Tryz.func22, Tryz.ntmps22
      go_wp2
      go_ret2
      unfold LnPost
      rw [HE.out.1, HE.out.2]
      exact ⟨_, rfl, .inl ⟨rfl, _, _, rfl⟩, Ow.refl _⟩
    · have hp : 0 < s.size := by omega
      have e0 := ba_full hp
      have HL : Hid (linesE s.data.toList = if s.data.toList.getLast? ≠ some 10 then 6 else if 5000 < (partsL 10 s.data.toList.dropLast).length then 3 else 0) := by
        have hne : s.data.toList ≠ [] := by intro e; have := congrArg List.length e; rw [ba_len, List.length_nil] at this; omega
        rw [Hid, linesE, ba_len, if_neg hbig, if_neg hne]
      have HNe : Hid (s.data.toList ≠ []) := by intro e; have := congrArg List.length e; rw [ba_len, List.length_nil] at this; omega
      clear hbig h0
      by_cases hlast : s.data.toList.getLast? = some 10
      · have HSu : Hid (decide (s.data.toList.getLast? = some 10) = true) := decide_eq_true hlast
        obtain ⟨L, hL⟩ : ∃ L, partsL 10 (s.extract 0 (s.size - 1)).data.toList = L := ⟨_, rfl⟩
        obtain ⟨n, hn⟩ : ∃ n, L.length = n := ⟨_, rfl⟩
        have hts : (s.extract 0 (s.size - 1)).size ≤ 2000000 := by rw [← ba_len, ext_last s hp, List.length_dropLast, ba_len]; omega
        have HTs := Lib.hid hts
        have HLL := Lib.hid hL
        have HN := Lib.hid hn
        have HE : Hid (linesE s.data.toList = if 5000 < n then 3 else 0) := by rw [Hid, HL.out, if_neg (by simpa using hlast), ← ext_last s hp, HLL.out, HN.out]
        clear hlast hL hn hts
        by_cases h5 : 5000 < n
        · have HF : Hid (linesE s.data.toList = 3) := by rw [Hid, HE.out, if_pos h5]
          go_enter Tryz.func22, Tryz.ntmps22
          go_wp2_with (first
            | (go_at_call 44; refine (suff_is _ _ HSu.out _ hs).mono ?_; rintro e w1 ⟨rfl, rfl⟩)
            | (go_at_call 45; refine (split_is1 _ 10 L HLL.out n HN.out _ HTs.out HG.out).mono ?_; rintro e w2 ⟨rfl, hst, hb2⟩; have HSt := Lib.hid hst; clear hst))
          go_ret2
          unfold LnPost
          rw [HF.out, lines_no HF.out (by decide)]
          exact ⟨_, rfl, .inl ⟨rfl, _, _, rfl⟩, hb2⟩
        · have HF : Hid (linesE s.data.toList = 0) := by rw [Hid, HE.out, if_neg h5]
          have HS : Hid (linesS s.data.toList = L) := by
            rw [Hid, linesS, if_pos ⟨HF.out, HNe.out⟩, ← ext_last s hp, HLL.out]
          go_enter Tryz.func22, Tryz.ntmps22
          go_wp2_with (first
            | (go_at_call 44; refine (suff_is _ _ HSu.out _ hs).mono ?_; rintro e w1 ⟨rfl, rfl⟩)
            | (go_at_call 45; refine (split_is1 _ 10 L HLL.out n HN.out _ HTs.out HG.out).mono ?_; rintro e w2 ⟨rfl, hst, hb2⟩; have HSt := Lib.hid hst; clear hst))
          go_ret2
          unfold LnPost
          rw [HF.out, HS.out]
          exact ⟨_, rfl, HSt.out, hb2⟩
      · have HSu : Hid (decide (s.data.toList.getLast? = some 10) = false) := decide_eq_false hlast
        have HF : Hid (linesE s.data.toList = 6) := by rw [Hid, HL.out, if_pos hlast]
        clear hlast
        go_enter Tryz.func22, Tryz.ntmps22
        go_wp2_with (go_at_call 44; refine (suff_is _ _ HSu.out _ hs).mono ?_; rintro e w1 ⟨rfl, rfl⟩)
        go_ret2
        unfold LnPost
        rw [HF.out, lines_no HF.out (by decide)]
        exact ⟨_, rfl, .inl ⟨rfl, _, _, rfl⟩, Ow.refl _⟩
end Go.Proofs.YtaojogaakhidhaaGreatDoor

/- The law WordsLines, walked. -/
import Derived.Test.YtkbbkolanbgajaaDoorWRLin
namespace Go.Proofs.YtkbbkolanbgajaaDoor
open Go.RowKit
open Wd (partsL linesE linesS)

theorem lin_is (s : ByteArray) (m : Int) (hm : linesE s.data.toList = m) (L : List (List UInt8)) (hL : linesS s.data.toList = L) (w : World) (hs : s.size ≤ 2000000) (hg : Gl w) :
    Calls Tryd.prog 44 #[.string s] w fun e w' => ∃ v, e = .returned (.tuple #[v, .int .i64 m]) ∧ StrsA w' v L ∧ Ow w w' := by
  subst hm hL
  exact Lines_any s w hs hg
theorem rlin_is (s : ByteArray) (m : Int) (hm : linesE s.data.toList = m) (L : List (List UInt8)) (hL : linesS s.data.toList = L) (w : World) (hs : s.size ≤ 2000000) :
    Calls Tryd.prog 45 #[.string s] w fun e w' => ∃ v, e = .returned (.tuple #[v, .int .i64 m]) ∧ StrsA w' v L ∧ Ow w w' := by
  subst hm hL
  exact rLines_any s w hs
theorem linesS_len (t : List UInt8) : (linesS t).length ≤ 5000 := by
  unfold linesS
  split
  · rename_i h
    have h1 := h.1
    unfold linesE at h1
    split at h1
    · cases h1
    · rw [if_neg h.2] at h1
      split at h1
      · cases h1
      · split at h1
        · cases h1
        · omega
  · simp
set_option maxRecDepth 100000 in
set_option maxHeartbeats 4000000 in
theorem lines_true (s : ByteArray) (w : World) (hs : s.size ≤ 2000000) (hg : Gl w) :
    Calls Tryd.prog 26 #[.string s] w fun e w' => e = .returned (.bool true) ∧ Ow w w' := by
  obtain ⟨m, hm⟩ : ∃ m, linesE s.data.toList = m := ⟨_, rfl⟩
  obtain ⟨L, hL⟩ : ∃ L, linesS s.data.toList = L := ⟨_, rfl⟩
  have hln : L.length ≤ 5000 := by rw [← hL]; exact linesS_len _
  have HG := Lib.hid hg
  have HM := Lib.hid hm
  have HL := Lib.hid hL
  clear hg hm hL
  go_enter Tryd.func26, Tryd.ntmps26
  go_wp2_with fail
  (go_at_call 44; refine (lin_is _ _ HM.out _ HL.out _ hs HG.out).mono ?_; rintro e w1 ⟨va, rfl, hva, hb1⟩)
  have SA := Lib.hid hva
  have O1 : Hid (Ow w w1) := hb1
  clear hva hb1
  go_wp2_with fail
  (go_at_call 45; refine (rlin_is _ _ HM.out _ HL.out _ hs).mono ?_; rintro e w2 ⟨vb, rfl, hvb, hb2⟩)
  have SA2 := Lib.hid (SA.out.then hb2)
  have SB := Lib.hid hvb
  have O2 := Lib.hid (O1.out.then hb2)
  clear hvb hb2
  rcases SA2.out with ⟨h0, a, cap, rfl⟩ | ⟨hne, g, off, cap, rfl, hg, hc⟩
  · rcases SB.out with ⟨_, a', cap', rfl⟩ | ⟨hne', _⟩
    · clear h0
      go_wp2
      go_loopw [7] (fun i wr => i = .int .i64 0 ∧ w2 = wr) (fun _ _ => 0)
      case atStart => exact ⟨rfl, rfl⟩
      case round =>
        obtain ⟨rfl, rfl⟩ := hrel
        go_wp2
        go_ret
        exact ⟨rfl, O2.out⟩
    · exact absurd h0 hne'
  · rcases SB.out with ⟨h0, _⟩ | ⟨_, g', off', cap', rfl, hg', hc'⟩
    · exact absurd h0 hne
    · have HC := Lib.hid hc
      have HC' := Lib.hid hc'
      clear hc hc' hne
      go_wp2
      go_loopw [7] (fun i wr => ∃ k : Nat, k ≤ L.length ∧ i = .int .i64 k ∧ Ow w2 wr) (fun i _ => L.length - (intOf i).toNat)
      case atStart => exact ⟨0, by omega, rfl, Ow.refl _⟩
      case round =>
        obtain ⟨k, hk, rfl, hb⟩ := hrel
        have HB := Lib.hid hb
        clear hb
        by_cases hlt : k < L.length
        · obtain ⟨x, hx⟩ : ∃ x, L[k]? = some x := ⟨L[k], List.getElem?_eq_getElem hlt⟩
          have c0 := (HB.out.cell (p := ⟨g, off + k, none⟩) hg).trans (HC.out k _ hx)
          have c1 := (HB.out.cell (p := ⟨g', off' + k, none⟩) hg').trans (HC'.out k _ hx)
          have el : decide (k < L.length) = true := by simpa using hlt
          have hlt2 : (k : Int) < (L.length : Int) := by omega
          clear hx
          go_wp2
          go_quiet (fail)
          go_wp2
          go_roundw
          case rel => exact ⟨k + 1, by omega, by go_num, HB.out.drewN _⟩
          case measure => simp [intOf]; omega
        · have el : decide (k < L.length) = false := by simpa using hlt
          go_wp2
          go_ret
          exact ⟨rfl, O2.out.then HB.out⟩

/-- The bytes that 'make' lays. -/
def mkB (n : Nat) : Array Value := madeCells #[.int .u8 0] n
theorem mkB_list (n : Nat) : (mkB n).toList = Lib.byteCells (List.replicate n 0) := by
  rw [mkB, toList_madeCells_one]
  simp [Lib.byteCells]
theorem set_bytes (bs : List UInt8) (k : Nat) (c : UInt8) : (Lib.byteCells bs).set k (.int .u8 (c.toNat : Int)) = Lib.byteCells (bs.set k c) := by
  simp [Lib.byteCells, List.map_set]
theorem byteCells_len (bs : List UInt8) : (Lib.byteCells bs).length = bs.length := by simp [Lib.byteCells]
/-- A row of bytes that the call owns: any bytes. -/
def Bts (w : World) (base g N : Nat) : Prop := ∃ bs : List UInt8, bs.length = N ∧ w.ownsRow base 5 1 (.slice (some ⟨g, 0, none⟩) N N) N (Lib.byteCells bs)
theorem Bts.cell {w : World} {base g N : Nat} (h : Bts w base g N) {k : Nat} (hk : k < N) : ∃ x : Int, w.cell? ⟨g, k, none⟩ = some (.int .u8 x) := by
  obtain ⟨bs, hl, ho⟩ := h
  refine ⟨(bs[k]'(by omega)).toNat, ?_⟩
  rw [ho.cellAt k (by omega)]
  simp [Lib.byteCells, hl, hk]
theorem Bts.frozen {w : World} {base g N : Nat} (h : Bts w base g N) (k : Nat) : w.frozen? ⟨g, k, none⟩ = false := by
  obtain ⟨bs, hl, ho⟩ := h
  exact ho.frozenAt k
theorem Bts.store {w : World} {base g N : Nat} (h : Bts w base g N) (k : Nat) (c : UInt8) : Bts (w.setCell ⟨g, k, none⟩ (.int .u8 (c.toNat : Int))) base g N := by
  obtain ⟨bs, hl, ho⟩ := h
  have := (ho.stored k (.int .u8 (c.toNat : Int))).1
  rw [set_bytes] at this
  exact ⟨bs.set k c, by simpa using hl, this⟩
theorem Bts.ge {w : World} {base g N : Nat} (h : Bts w base g N) : base ≤ g := by
  obtain ⟨bs, hl, ho⟩ := h
  exact (ho.lt g rfl).1
theorem Bts.conv {w W : World} {base g N : Nat} (h : Bts w base g N) (hb : Ow w W) : ∃ t : ByteArray, t.size = N ∧ (convert 38 9 (.slice (some ⟨g, 0, none⟩) N N)).run Tryd.prog W = .ok (.string t) W := by
  obtain ⟨bs, hl, ho⟩ := h
  subst hl
  exact ⟨⟨bs.toArray⟩, rfl, own_conv W 38 9 5 Tryd.underlying38 Tryd.underlying5 Tryd.underlying9 (own_then ho hb)⟩
theorem Bts.new (w : World) (base N : Nat) (hb : base ≤ w.heap.size) (hn : N ≤ 2000000) : Bts (w.alloc (.cells (mkB N) 5)) base w.heap.size N := by
  have hl : (mkB N).size = N * 1 := by rw [← Array.length_toList, mkB_list, byteCells_len, List.length_replicate]; omega
  have := World.ownsRow_lit (base := base) (e := 5) (size := 1) w (mkB N) N hb (by unfold maxLen; omega) hl
  rw [mkB_list] at this
  exact ⟨List.replicate N 0, by simp, this⟩
theorem make_is (N : Nat) (n : Int) (hn : n = N) (w : World) (hN : N ≤ 2000000) : (Instr.makeSlice 38 (.int .i64 n) (.int .i64 n)).run Tryd.prog w = .ok (.slice (some ⟨w.heap.size, 0, none⟩) N N) (w.alloc (.cells (mkB N) 5)) := by
  subst hn
  obtain ⟨i0, hi0, hz0, hz1, hz2⟩ := info_parts Tryd.infoU8
  have hr := run_make (P := Tryd.prog) w 38 5 i0 (.int .u8 0) Tryd.underlying38 hi0 hz0 .i64 .i64 N N (by omega) (Int.le_refl _) (by rw [hz2]; omega) (by omega)
  simp only [Int.toNat_natCast] at hr
  rw [hr, hz1, Nat.mul_one]
  rfl
end Go.Proofs.YtkbbkolanbgajaaDoor

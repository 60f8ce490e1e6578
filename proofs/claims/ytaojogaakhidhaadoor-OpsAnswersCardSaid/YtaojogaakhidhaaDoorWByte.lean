/- Package words: the walks of isPlain, letterOf. -/
import Derived.Test.YtaojogaakhidhaaDoorChecked
import Derived.Test.YtaojogaakhidhaaDoorWPlain
import Derived.WalkKit
import Derived.Lib.Hide
import Derived.Lib.LaidTab
import Derived.Lib.ItoaNum
import Derived.WalkSpells
import Derived.WalkLawsBesides
import Derived.Laws.Rows
import Derived.WalkSmall
namespace Go.Proofs.YtaojogaakhidhaaDoor
open Go.RowKit
open Wd (plainB letB)

theorem Tryd.infoStr : (Tryd.prog.info? 9).map (fun i => (i.zero, i.size, i.bytes)) = some (some (.string ByteArray.empty), 1, 16) := by kernel_rfl
/-- What the package-level variables hold. -/
def escCells : Array Value := #[.int .u8 34, .int .u8 34, .int .u8 92, .int .u8 92, .int .u8 10, .int .u8 110, .int .u8 13, .int .u8 114, .int .u8 9, .int .u8 116]
structure Gl (w : World) : Prop where
  pow : Lib.TabIs Tryd.prog w "internal/strconv.uint64pow10" .u64 Lib.pow10Tab
  esc : w.var? Tryd.prog "shunter/words.escapes" = some escCells
  rng : ∃ tp p, w.var? Tryd.prog "strconv.ErrRange" = some #[.iface tp p]
  max : ∃ m : Int, w.cell? ⟨3, 0, none⟩ = some (.int .i64 m)
theorem lt_of_cell {w : World} {b o : Nat} {v : Value} (h : w.cell? ⟨b, o, none⟩ = some v) : b < w.heap.size := by
  rcases Nat.lt_or_ge b w.heap.size with hlt | hge
  · exact hlt
  · rw [World.cell?, Array.getElem?_eq_none hge] at h; cases h
theorem Gl.below {w w' : World} (h : Gl w) (hb : Below w.heap.size w w') : Gl w' := by
  have hp := h.pow
  obtain ⟨tp, p, hr⟩ := h.rng
  obtain ⟨m, hm⟩ := h.max
  refine ⟨?_, ?_, ⟨tp, p, ?_⟩, ⟨m, ?_⟩⟩
  · exact var?_below hb (show Tryd.prog.globalNamed "internal/strconv.uint64pow10" = some 0 by kernel_rfl) (lt_of_cell (Lib.TabIs.cell hp (by kernel_rfl) 0 (by decide))) hp
  · exact var?_below hb (show Tryd.prog.globalNamed "shunter/words.escapes" = some 4 by kernel_rfl) (lt_of_cell (o := 0) (v := .int .u8 34) (by have := World.var?_cell (show Tryd.prog.globalNamed "shunter/words.escapes" = some 4 by kernel_rfl) h.esc 0; simpa [escCells] using this)) h.esc
  · exact var?_below hb (show Tryd.prog.globalNamed "strconv.ErrRange" = some 2 by kernel_rfl) (lt_of_cell (o := 0) (v := .iface tp p) (by have := World.var?_cell (show Tryd.prog.globalNamed "strconv.ErrRange" = some 2 by kernel_rfl) hr 0; simpa using this)) hr
  · exact (hb.cell (lt_of_cell hm)).trans hm

theorem plain_iff (c : UInt8) : plainB c = decide (32 ≤ c.toNat ∧ c.toNat ≤ 126 ∧ c.toNat ≠ 34 ∧ c.toNat ≠ 92) := by
  have := Wd.all256 (p := fun c => plainB c == decide (32 ≤ c.toNat ∧ c.toNat ≤ 126 ∧ c.toNat ≠ 34 ∧ c.toNat ≠ 92)) (by decide +kernel) c
  simpa using this
theorem byte_lt (c : UInt8) : c.toNat < 256 := c.toNat_lt

set_option maxHeartbeats 400000 in
theorem isPlain_any (c : UInt8) (w : World) :
    Calls Tryd.prog 81 #[.int .u8 (c.toNat : Int)] w fun e w' => e = .returned (.bool (plainB c)) ∧ w = w' := by
  rw [plain_iff]
  have hlt := byte_lt c
  generalize c.toNat = n at hlt ⊢
  by_cases h1 : 32 ≤ n
  · by_cases h2 : n ≤ 126
    · by_cases h3 : n = 34
      · subst h3
        go_enter Tryd.func81, Tryd.ntmps81
        go_wp2
        go_ret
        exact ⟨rfl, rfl⟩
      · by_cases h4 : n = 92
        · subst h4
          go_enter Tryd.func81, Tryd.ntmps81
          go_wp2
          go_ret
          exact ⟨rfl, rfl⟩
        · have e3 : ((n : Int) != 34) = true := by rw [bne_iff_ne]; omega
          have e4 : ((n : Int) != 92) = true := by rw [bne_iff_ne]; omega
          go_enter Tryd.func81, Tryd.ntmps81
          go_wp2
          go_ret
          exact ⟨by simp [h1, h2, h3, h4], rfl⟩
    · go_enter Tryd.func81, Tryd.ntmps81
      go_wp2
      go_ret
      exact ⟨by simp, rfl⟩
  · go_enter Tryd.func81, Tryd.ntmps81
    go_wp2
    go_ret
    exact ⟨by simp, rfl⟩

theorem isPlain_is (c : UInt8) (n : Nat) (hn : c.toNat = n) (b : Bool) (hb : plainB c = b) (w : World) :
    Calls Tryd.prog 81 #[.int .u8 (n : Int)] w fun e w' => e = .returned (.bool b) ∧ w = w' := by
  subst hn hb; exact isPlain_any c w
def escRow (k : Nat) : UInt8 × UInt8 := [(34, 34), (92, 92), (10, 110), (13, 114), (9, 116)].getD k (0, 0)
def letV (n : Nat) : UInt8 := if n = 34 then 34 else if n = 92 then 92 else if n = 10 then 110 else if n = 13 then 114 else if n = 9 then 116 else 0
theorem let_at (c : UInt8) : letB c = letV c.toNat := by
  show letB c = if c.toNat = 34 then 34 else if c.toNat = 92 then 92 else if c.toNat = 10 then 110 else if c.toNat = 13 then 114 else if c.toNat = 9 then 116 else 0
  have := Wd.all256 (p := fun c => letB c == if c.toNat = 34 then 34 else if c.toNat = 92 then 92 else if c.toNat = 10 then 110 else if c.toNat = 13 then 114 else if c.toNat = 9 then 116 else 0) (by decide +kernel) c
  simpa using this

set_option maxHeartbeats 2000000 in
theorem letterOf_any (c : UInt8) (w : World) (hg : Gl w) :
    Calls Tryd.prog 94 #[.int .u8 (c.toNat : Int)] w fun e w' => e = .returned (.int .u8 ((letB c).toNat : Int)) ∧ Below w.heap.size w w' := by
  rw [let_at]
  have hlt := byte_lt c
  generalize c.toNat = n at hlt ⊢
  obtain ⟨tt, fr, hgb⟩ : ∃ tt fr, w.heap[4]? = some (.cells escCells tt fr) := by
    have hv := hg.esc
    simp only [World.var?, show Tryd.prog.globalNamed "shunter/words.escapes" = some 4 by kernel_rfl, Option.bind_some] at hv
    split at hv
    · rename_i cs tt fr e
      obtain rfl : cs = escCells := by simpa using hv
      exact ⟨_, _, e⟩
    · cases hv
  have HG := Lib.hid hgb
  clear hgb hg
  have i0 : ∀ w, (Instr.index 132 (.agg escCells) (.int .i64 0)).run Tryd.prog w = .ok (.agg #[.int .u8 34, .int .u8 34]) w := fun _ => by kernel_rfl
  have i1 : ∀ w, (Instr.index 132 (.agg escCells) (.int .i64 1)).run Tryd.prog w = .ok (.agg #[.int .u8 92, .int .u8 92]) w := fun _ => by kernel_rfl
  have i2 : ∀ w, (Instr.index 132 (.agg escCells) (.int .i64 2)).run Tryd.prog w = .ok (.agg #[.int .u8 10, .int .u8 110]) w := fun _ => by kernel_rfl
  have i3 : ∀ w, (Instr.index 132 (.agg escCells) (.int .i64 3)).run Tryd.prog w = .ok (.agg #[.int .u8 13, .int .u8 114]) w := fun _ => by kernel_rfl
  have i4 : ∀ w, (Instr.index 132 (.agg escCells) (.int .i64 4)).run Tryd.prog w = .ok (.agg #[.int .u8 9, .int .u8 116]) w := fun _ => by kernel_rfl
  go_enter Tryd.func94, Tryd.ntmps94
  go_wp2_with (refine wpList_load_row rfl 132 _ rfl 4 rfl tt _ fr _ HG.out Tryd.underlying132 rfl (by kernel_rfl) ?_)
  go_loopw [6] (fun i wr => ∃ k : Nat, k ≤ 5 ∧ i = .int .i64 k ∧ (0 < k → n ≠ 34) ∧ (1 < k → n ≠ 92) ∧ (2 < k → n ≠ 10) ∧ (3 < k → n ≠ 13) ∧ (4 < k → n ≠ 9) ∧ Below w.heap.size w wr) (fun i _ => 5 - (intOf i).toNat)
  case atStart => exact ⟨0, by omega, rfl, by omega, by omega, by omega, by omega, by omega, Below.refl _ _⟩
  case round =>
    obtain ⟨k, hk, rfl, n0, n1, n2, n3, n4, hb⟩ := hrel
    have HN : Hid ((0 < k → n ≠ 34) ∧ (1 < k → n ≠ 92) ∧ (2 < k → n ≠ 10) ∧ (3 < k → n ≠ 13) ∧ (4 < k → n ≠ 9)) := ⟨n0, n1, n2, n3, n4⟩
    have HB := Lib.hid hb
    clear n0 n1 n2 n3 n4 hb
    rcases (show k = 0 ∨ k = 1 ∨ k = 2 ∨ k = 3 ∨ k = 4 ∨ k = 5 by omega) with rfl | rfl | rfl | rfl | rfl | rfl
    · by_cases hc : n = 34
      · subst hc
        clear hk hlt
        go_wp2
        go_ret
        exact ⟨rfl, HB.out.trans ((Below.refl _ _).alloc HB.out.size _)⟩
      · have e1 : ((34 : Int) == (n : Int)) = false := by rw [beq_eq_false_iff_ne]; omega
        have HC := Lib.hid hc
        clear hk hc
        go_wp2
        go_roundw
        case rel => exact ⟨1, by omega, by go_num, by have := HN.out; have := HC.out; omega, by have := HN.out; have := HC.out; omega, by have := HN.out; have := HC.out; omega, by have := HN.out; have := HC.out; omega, by have := HN.out; have := HC.out; omega, HB.out.trans ((Below.refl _ _).alloc HB.out.size _)⟩
        case measure => simp [intOf]
    · by_cases hc : n = 92
      · subst hc
        clear hk hlt
        go_wp2
        go_ret
        exact ⟨rfl, HB.out.trans ((Below.refl _ _).alloc HB.out.size _)⟩
      · have e1 : ((92 : Int) == (n : Int)) = false := by rw [beq_eq_false_iff_ne]; omega
        have HC := Lib.hid hc
        clear hk hc
        go_wp2
        go_roundw
        case rel => exact ⟨2, by omega, by go_num, by have := HN.out; have := HC.out; omega, by have := HN.out; have := HC.out; omega, by have := HN.out; have := HC.out; omega, by have := HN.out; have := HC.out; omega, by have := HN.out; have := HC.out; omega, HB.out.trans ((Below.refl _ _).alloc HB.out.size _)⟩
        case measure => simp [intOf]
    · by_cases hc : n = 10
      · subst hc
        clear hk hlt
        go_wp2
        go_ret
        exact ⟨rfl, HB.out.trans ((Below.refl _ _).alloc HB.out.size _)⟩
      · have e1 : ((10 : Int) == (n : Int)) = false := by rw [beq_eq_false_iff_ne]; omega
        have HC := Lib.hid hc
        clear hk hc
        go_wp2
        go_roundw
        case rel => exact ⟨3, by omega, by go_num, by have := HN.out; have := HC.out; omega, by have := HN.out; have := HC.out; omega, by have := HN.out; have := HC.out; omega, by have := HN.out; have := HC.out; omega, by have := HN.out; have := HC.out; omega, HB.out.trans ((Below.refl _ _).alloc HB.out.size _)⟩
        case measure => simp [intOf]
    · by_cases hc : n = 13
      · subst hc
        clear hk hlt
        go_wp2
        go_ret
        exact ⟨rfl, HB.out.trans ((Below.refl _ _).alloc HB.out.size _)⟩
      · have e1 : ((13 : Int) == (n : Int)) = false := by rw [beq_eq_false_iff_ne]; omega
        have HC := Lib.hid hc
        clear hk hc
        go_wp2
        go_roundw
        case rel => exact ⟨4, by omega, by go_num, by have := HN.out; have := HC.out; omega, by have := HN.out; have := HC.out; omega, by have := HN.out; have := HC.out; omega, by have := HN.out; have := HC.out; omega, by have := HN.out; have := HC.out; omega, HB.out.trans ((Below.refl _ _).alloc HB.out.size _)⟩
        case measure => simp [intOf]
    · by_cases hc : n = 9
      · subst hc
        clear hk hlt
        go_wp2
        go_ret
        exact ⟨rfl, HB.out.trans ((Below.refl _ _).alloc HB.out.size _)⟩
      · have e1 : ((9 : Int) == (n : Int)) = false := by rw [beq_eq_false_iff_ne]; omega
        have HC := Lib.hid hc
        clear hk hc
        go_wp2
        go_roundw
        case rel => exact ⟨5, by omega, by go_num, by have := HN.out; have := HC.out; omega, by have := HN.out; have := HC.out; omega, by have := HN.out; have := HC.out; omega, by have := HN.out; have := HC.out; omega, by have := HN.out; have := HC.out; omega, HB.out.trans ((Below.refl _ _).alloc HB.out.size _)⟩
        case measure => simp [intOf]
    · clear hk
      go_wp2
      go_ret
      obtain ⟨m0, m1, m2, m3, m4⟩ := HN.out
      unfold letV
      rw [if_neg (m0 (by omega)), if_neg (m1 (by omega)), if_neg (m2 (by omega)), if_neg (m3 (by omega)), if_neg (m4 (by omega))]
      exact ⟨rfl, HB.out⟩
theorem letterOf_is (c : UInt8) (n : Nat) (hn : c.toNat = n) (d : UInt8) (hd : letB c = d) (w : World) (hg : Gl w) :
    Calls Tryd.prog 94 #[.int .u8 (n : Int)] w fun e w' => e = .returned (.int .u8 (d.toNat : Int)) ∧ Below w.heap.size w w' := by
  subst hn hd; exact letterOf_any c w hg
end Go.Proofs.YtaojogaakhidhaaDoor

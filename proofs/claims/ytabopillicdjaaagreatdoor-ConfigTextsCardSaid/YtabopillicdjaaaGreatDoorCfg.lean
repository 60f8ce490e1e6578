/- The walks of package config's small functions: limits, Check. -/
import Derived.Test.YtabopillicdjaaaGreatDoorChecked
import Derived.Test.YtabopillicdjaaaGreatDoorCfgPlain
import Derived.WalkKit
import Derived.Lib.Hide
import Derived.Laws.EntriesVeiled
import Derived.WalkSpells
import Derived.WalkLawsBesides
namespace Go.Proofs.YtabopillicdjaaaGreatDoor
open Go.RowKit

/-- The cells of the table that limits makes. -/
def limCells : Array Value := #[
  .string ⟨#[99, 97, 114, 115]⟩, .int .i64 7, .int .i64 24, .func (.func 73) #[] #[],
  .string ⟨#[111, 102]⟩, .int .i64 8, .int .i64 64, .func (.func 74) #[] #[],
  .string ⟨#[110, 117, 114, 115, 101, 114, 121]⟩, .int .i64 4, .int .i64 64, .func (.func 75) #[] #[],
  .string ⟨#[114, 101, 103, 105, 115, 116, 101, 114, 115]⟩, .int .i64 1, .int .i64 8, .func (.func 76) #[] #[],
  .string ⟨#[112, 111, 112, 117, 108, 97, 114]⟩, .int .i64 2, .int .i64 16, .func (.func 77) #[] #[]]

set_option maxHeartbeats 400000 in
theorem limits_any (w : World) :
    Calls Tryz.prog 48 #[] w fun e w' => e = .returned (.slice (some ⟨w.heap.size, 0, none⟩) 5 5) ∧ w' = w.alloc (.cells limCells 96) := by
  go_enter Tryz.func48, Tryz.ntmps48
  go_wp2
  go_ret
  exact ⟨rfl, rfl⟩

/-- The first k of its numbers are as stated. -/
def okTo (k : Nat) (C N S K Q : Int) : Prop :=
  (0 < k → 7 ≤ N ∧ N ≤ 24) ∧ (1 < k → 8 ≤ C ∧ C ≤ 64) ∧ (2 < k → 4 ≤ S ∧ S ≤ 64) ∧ (3 < k → 1 ≤ K ∧ K ≤ 8) ∧ (4 < k → 2 ≤ Q ∧ Q ≤ 16)
def cfgV (C N S K Q : Int) : Value := .agg #[.int .i64 C, .int .i64 N, .int .i64 S, .int .i64 K, .int .i64 Q]
def CheckPost (C N S K Q : Int) (w : World) (e : Ending) (w' : World) : Prop := e = .returned (.int .i64 (chkE C N S K Q)) ∧ Below w.heap.size w w'

theorem bad_ret {C N S K Q : Int} (h : ¬ (7 ≤ N ∧ N ≤ 24 ∧ 8 ≤ C ∧ C ≤ 64 ∧ 4 ≤ S ∧ S ≤ 64 ∧ 1 ≤ K ∧ K ≤ 8 ∧ 2 ≤ Q ∧ Q ≤ 16)) : Ending.returned (.int .i64 7) = .returned (.int .i64 (chkE C N S K Q)) := by
  have : okC C N S K Q = false := by simp only [okC, decide_eq_false_iff_not]; exact h
  simp [chkE, this]

theorem limCell (w : World) (C N S K Q : Int) :
    ∀ i u, limCells[i]? = some u → ((w.alloc (.cells #[.int .i64 C, .int .i64 N, .int .i64 S, .int .i64 K, .int .i64 Q] 45)).alloc (.cells limCells 96)).cell? ⟨w.heap.size + 1, i, none⟩ = some u := by
  intro i u hu
  rw [cell_of_row _ _ i limCells 96 (0, 0) (by have := heap_alloc_new (w.alloc (.cells #[.int .i64 C, .int .i64 N, .int .i64 S, .int .i64 K, .int .i64 Q] 45)) (.cells limCells 96); simpa using this)]
  exact hu

theorem cfgCell (w : World) (C N S K Q : Int) (o : Obj) :
    ∀ i u, (#[.int .i64 C, .int .i64 N, .int .i64 S, .int .i64 K, .int .i64 Q] : Array Value)[i]? = some u → ((w.alloc (.cells #[.int .i64 C, .int .i64 N, .int .i64 S, .int .i64 K, .int .i64 Q] 45)).alloc o).cell? ⟨w.heap.size, i, none⟩ = some u := by
  intro i u hu
  rw [World.cell?_alloc_lt _ _ _ (by simp)]
  rw [cell_of_row _ _ i #[.int .i64 C, .int .i64 N, .int .i64 S, .int .i64 K, .int .i64 Q] 45 (0, 0) (heap_alloc_new w _)]
  exact hu

/-- What a round of Check's loop sees: the table's row k and the config's cells. -/
def Sees (B : Nat) (C N S K Q : Int) (wr : World) : Prop :=
  (∀ i u, limCells[i]? = some u → wr.cell? ⟨B + 1, i, none⟩ = some u) ∧ (∀ i u, (#[.int .i64 C, .int .i64 N, .int .i64 S, .int .i64 K, .int .i64 Q] : Array Value)[i]? = some u → wr.cell? ⟨B, i, none⟩ = some u)
theorem Sees.below {B : Nat} {C N S K Q : Int} {w w' : World} (h : Sees B C N S K Q w) (hb : Below (B + 2) w w') : Sees B C N S K Q w' :=
  ⟨fun i u hu => (hb.cell (p := ⟨B + 1, i, none⟩) (by simp)).trans (h.1 i u hu), fun i u hu => (hb.cell (p := ⟨B, i, none⟩) (by simp)).trans (h.2 i u hu)⟩

set_option maxHeartbeats 1000000 in
theorem check_any (C N S K Q : Int) (w : World) :
    Calls Tryz.prog 47 #[.agg #[.int .i64 C, .int .i64 N, .int .i64 S, .int .i64 K, .int .i64 Q]] w (CheckPost C N S K Q w) := by
  have HS := Lib.hid (show Sees w.heap.size C N S K Q ((w.alloc (.cells #[.int .i64 C, .int .i64 N, .int .i64 S, .int .i64 K, .int .i64 Q] 45)).alloc (.cells limCells 96)) from ⟨limCell w C N S K Q, cfgCell w C N S K Q _⟩)
  have HB := Lib.hid (show Below w.heap.size w ((w.alloc (.cells #[.int .i64 C, .int .i64 N, .int .i64 S, .int .i64 K, .int .i64 Q] 45)).alloc (.cells limCells 96)) from ((Below.refl _ _).alloc (Nat.le_refl _) _).alloc (by simp) _)
  go_enter Tryz.func47, Tryz.ntmps47
  go_wp2_with (go_at_call 48; refine (limits_any _).mono ?_; rintro e w' ⟨rfl, rfl⟩)
  go_loopw [8] (fun i wr => ∃ k : Nat, k ≤ 5 ∧ i = .int .i64 k ∧ okTo k C N S K Q ∧ Sees w.heap.size C N S K Q wr ∧ Below w.heap.size w wr ∧ w.heap.size + 2 ≤ wr.heap.size) (fun i _ => 5 - (intOf i).toNat)
  case atStart => exact ⟨0, by omega, rfl, by simp [okTo], HS.out, HB.out, by simp⟩
  case round =>
    obtain ⟨k, hk, rfl, hok, hs, hb, hz⟩ := hrel
    by_cases h5 : k = 5
    · subst h5
      go_wp2
      go_ret
      refine ⟨?_, hb⟩
      simp only [okTo] at hok
      have : okC C N S K Q = true := by simp only [okC, decide_eq_true_eq]; omega
      simp [chkE, this]
    · rcases (show k = 0 ∨ k = 1 ∨ k = 2 ∨ k = 3 ∨ k = 4 by omega) with rfl | rfl | rfl | rfl | rfl
      · have l0 : wr.cell? ⟨w.heap.size + 1, 0, none⟩ = some (.string ⟨#[99, 97, 114, 115]⟩) := hs.1 0 _ rfl
        have l1 : wr.cell? ⟨w.heap.size + 1, 1, none⟩ = some (.int .i64 7) := hs.1 1 _ rfl
        have l2 : wr.cell? ⟨w.heap.size + 1, 2, none⟩ = some (.int .i64 24) := hs.1 2 _ rfl
        have l3 : wr.cell? ⟨w.heap.size + 1, 3, none⟩ = some (.func (.func 73) #[] #[]) := hs.1 3 _ rfl
        have c1 : ∀ o, (wr.alloc o).cell? ⟨w.heap.size, 1, none⟩ = some (.int .i64 N) := fun o => (World.cell?_alloc_lt wr o _ (by simp; omega)).trans (hs.2 1 _ rfl)
        have HS2 := Lib.hid hs
        have HB2 := Lib.hid hb
        have HO := Lib.hid hok
        clear hs hb HS HB hok hk h5
        go_wp2
        all_goals first
          | (go_roundw
             case rel => exact ⟨1, by omega, by go_num, by have := HO.out; simp only [okTo] at this ⊢; omega, HS2.out.below ((Below.refl _ _).alloc hz _), HB2.out.trans ((Below.refl _ _).alloc (by omega) _), by simp; omega⟩
             case measure => simp [intOf])
          | (go_ret
             exact ⟨bad_ret (by omega), HB2.out.trans ((Below.refl _ _).alloc (by omega) _)⟩)
      · have l0 : wr.cell? ⟨w.heap.size + 1, 4, none⟩ = some (.string ⟨#[111, 102]⟩) := hs.1 4 _ rfl
        have l1 : wr.cell? ⟨w.heap.size + 1, 5, none⟩ = some (.int .i64 8) := hs.1 5 _ rfl
        have l2 : wr.cell? ⟨w.heap.size + 1, 6, none⟩ = some (.int .i64 64) := hs.1 6 _ rfl
        have l3 : wr.cell? ⟨w.heap.size + 1, 7, none⟩ = some (.func (.func 74) #[] #[]) := hs.1 7 _ rfl
        have c1 : ∀ o, (wr.alloc o).cell? ⟨w.heap.size, 0, none⟩ = some (.int .i64 C) := fun o => (World.cell?_alloc_lt wr o _ (by simp; omega)).trans (hs.2 0 _ rfl)
        have HS2 := Lib.hid hs
        have HB2 := Lib.hid hb
        have HO := Lib.hid hok
        clear hs hb HS HB hok hk h5
        go_wp2
        all_goals first
          | (go_roundw
             case rel => exact ⟨2, by omega, by go_num, by have := HO.out; simp only [okTo] at this ⊢; omega, HS2.out.below ((Below.refl _ _).alloc hz _), HB2.out.trans ((Below.refl _ _).alloc (by omega) _), by simp; omega⟩
             case measure => simp [intOf])
          | (go_ret
             exact ⟨bad_ret (by omega), HB2.out.trans ((Below.refl _ _).alloc (by omega) _)⟩)
      · have l0 : wr.cell? ⟨w.heap.size + 1, 8, none⟩ = some (.string ⟨#[110, 117, 114, 115, 101, 114, 121]⟩) := hs.1 8 _ rfl
        have l1 : wr.cell? ⟨w.heap.size + 1, 9, none⟩ = some (.int .i64 4) := hs.1 9 _ rfl
        have l2 : wr.cell? ⟨w.heap.size + 1, 10, none⟩ = some (.int .i64 64) := hs.1 10 _ rfl
        have l3 : wr.cell? ⟨w.heap.size + 1, 11, none⟩ = some (.func (.func 75) #[] #[]) := hs.1 11 _ rfl
        have c1 : ∀ o, (wr.alloc o).cell? ⟨w.heap.size, 2, none⟩ = some (.int .i64 S) := fun o => (World.cell?_alloc_lt wr o _ (by simp; omega)).trans (hs.2 2 _ rfl)
        have HS2 := Lib.hid hs
        have HB2 := Lib.hid hb
        have HO := Lib.hid hok
        clear hs hb HS HB hok hk h5
        go_wp2
        all_goals first
          | (go_roundw
             case rel => exact ⟨3, by omega, by go_num, by have := HO.out; simp only [okTo] at this ⊢; omega, HS2.out.below ((Below.refl _ _).alloc hz _), HB2.out.trans ((Below.refl _ _).alloc (by omega) _), by simp; omega⟩
             case measure => simp [intOf])
          | (go_ret
             exact ⟨bad_ret (by omega), HB2.out.trans ((Below.refl _ _).alloc (by omega) _)⟩)
      · have l0 : wr.cell? ⟨w.heap.size + 1, 12, none⟩ = some (.string ⟨#[114, 101, 103, 105, 115, 116, 101, 114, 115]⟩) := hs.1 12 _ rfl
        have l1 : wr.cell? ⟨w.heap.size + 1, 13, none⟩ = some (.int .i64 1) := hs.1 13 _ rfl
        have l2 : wr.cell? ⟨w.heap.size + 1, 14, none⟩ = some (.int .i64 8) := hs.1 14 _ rfl
        have l3 : wr.cell? ⟨w.heap.size + 1, 15, none⟩ = some (.func (.func 76) #[] #[]) := hs.1 15 _ rfl
        have c1 : ∀ o, (wr.alloc o).cell? ⟨w.heap.size, 3, none⟩ = some (.int .i64 K) := fun o => (World.cell?_alloc_lt wr o _ (by simp; omega)).trans (hs.2 3 _ rfl)
        have HS2 := Lib.hid hs
        have HB2 := Lib.hid hb
        have HO := Lib.hid hok
        clear hs hb HS HB hok hk h5
        go_wp2
        all_goals first
          | (go_roundw
             case rel => exact ⟨4, by omega, by go_num, by have := HO.out; simp only [okTo] at this ⊢; omega, HS2.out.below ((Below.refl _ _).alloc hz _), HB2.out.trans ((Below.refl _ _).alloc (by omega) _), by simp; omega⟩
             case measure => simp [intOf])
          | (go_ret
             exact ⟨bad_ret (by omega), HB2.out.trans ((Below.refl _ _).alloc (by omega) _)⟩)
      · have l0 : wr.cell? ⟨w.heap.size + 1, 16, none⟩ = some (.string ⟨#[112, 111, 112, 117, 108, 97, 114]⟩) := hs.1 16 _ rfl
        have l1 : wr.cell? ⟨w.heap.size + 1, 17, none⟩ = some (.int .i64 2) := hs.1 17 _ rfl
        have l2 : wr.cell? ⟨w.heap.size + 1, 18, none⟩ = some (.int .i64 16) := hs.1 18 _ rfl
        have l3 : wr.cell? ⟨w.heap.size + 1, 19, none⟩ = some (.func (.func 77) #[] #[]) := hs.1 19 _ rfl
        have c1 : ∀ o, (wr.alloc o).cell? ⟨w.heap.size, 4, none⟩ = some (.int .i64 Q) := fun o => (World.cell?_alloc_lt wr o _ (by simp; omega)).trans (hs.2 4 _ rfl)
        have HS2 := Lib.hid hs
        have HB2 := Lib.hid hb
        have HO := Lib.hid hok
        clear hs hb HS HB hok hk h5
        go_wp2
        all_goals first
          | (go_roundw
             case rel => exact ⟨5, by omega, by go_num, by have := HO.out; simp only [okTo] at this ⊢; omega, HS2.out.below ((Below.refl _ _).alloc hz _), HB2.out.trans ((Below.refl _ _).alloc (by omega) _), by simp; omega⟩
             case measure => simp [intOf])
          | (go_ret
             exact ⟨bad_ret (by omega), HB2.out.trans ((Below.refl _ _).alloc (by omega) _)⟩)

end Go.Proofs.YtabopillicdjaaaGreatDoor

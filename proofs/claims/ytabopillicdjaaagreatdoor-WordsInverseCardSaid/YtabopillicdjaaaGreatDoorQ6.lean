/- The reference of chapter 1: List. The law WordsSplits, walked. The law WordsKnown, walked (printed by gen/wlkn.py). -/
import Derived.Test.YtabopillicdjaaaGreatDoorQ4
import Derived.Test.YtabopillicdjaaaGreatDoorWArg
import Derived.Test.YtabopillicdjaaaGreatDoorWRSpl
import Derived.Test.YtabopillicdjaaaGreatDoorWParW
namespace Go.Proofs.YtabopillicdjaaaGreatDoor
open Go.RowKit
open Wd (restT listT ascB outB listE listS)

theorem list_nil : listE [] = 0 ∧ listS [] = [45] := ⟨rfl, rfl⟩
theorem list_out {l : List Int} (h500 : ¬ 500 < l.length) {k : Nat} {x : Int} (hx : l[k]? = some x) (ho : x < 0 ∨ 1000000000 < x) : listS l = [] ∧ listE l = 7 := by
  have : listE l = 7 := by unfold listE; rw [if_neg h500, if_pos (out_any hx ho)]
  exact ⟨by unfold listS; rw [this]; rfl, this⟩
theorem list_form {l : List Int} (h500 : ¬ 500 < l.length) (hin : inTo l l.length) (h : ascB l = false) : listS l = [] ∧ listE l = 6 := by
  have : listE l = 6 := by unfold listE; rw [if_neg h500, if_neg (by rw [inTo_all hin]; simp), if_pos h]
  exact ⟨by unfold listS; rw [this]; rfl, this⟩
theorem list_good {l : List Int} (h500 : ¬ 500 < l.length) (hin : inTo l l.length) (h : ascB l = true) : listE l = 0 ∧ listS l = listT l := by
  have : listE l = 0 := by unfold listE; rw [if_neg h500, if_neg (by rw [inTo_all hin]; simp), if_neg (by rw [h]; simp)]
  exact ⟨this, by unfold listS; rw [if_pos this]⟩
theorem inTo_next {l : List Int} {k : Nat} {x : Int} (h : inTo l k) (hx : l[k]? = some x) (h0 : 0 ≤ x) (h1 : x ≤ 1000000000) : inTo l (k + 1) := fun j y hj hy => by
  by_cases hjk : j < k
  · exact h j y hjk hy
  · obtain rfl : j = k := by omega
    rw [hx] at hy; cases hy; omega
theorem not_asc_at {l : List Int} {k : Nat} {p x : Int} (hp : l[k]? = some p) (hx : l[k + 1]? = some x) (h : x ≤ p) : ascB l = false := by
  cases ha : ascB l with
  | false => rfl
  | true =>
    have := (Wd.asc_iff l).1 ha k p x hp hx
    omega
end Go.Proofs.YtabopillicdjaaaGreatDoor
namespace Go.Proofs.YtabopillicdjaaaGreatDoor
open Go.RowKit
open Wd (splitS splitE)

theorem splitS_len (l : List UInt8) : (splitS l).length ≤ 64 := by
  unfold splitS
  split
  · simp
  · split
    · simp
    · split
      · simp
      · rename_i h
        exact Nat.le_of_not_lt (fun e => h (.inr e))
theorem split_is (s : ByteArray) (m : Int) (hm : splitE s.data.toList = m) (w : World) (hs : s.size ≤ 9000) (hg : Gl w) :
    Calls Tryz.prog 7 #[.string s] w fun e w' => ∃ v, e = .returned (.tuple #[v, .int .i64 m]) ∧ Flds w' v (splitS s.data.toList) ∧ Ow w w' := by
  subst hm
  exact (Split_any s w hs hg).mono fun e w' ⟨v, h1, h2, h3⟩ => ⟨v, h1, flds_own h2, h3⟩
end Go.Proofs.YtabopillicdjaaaGreatDoor
namespace Go.Proofs.YtabopillicdjaaaGreatDoor
open Go.RowKit
open Wd (plE plS)

theorem pl_is (s : ByteArray) (m : Int) (hm : plE s.data.toList = m) (w : World) (hs : s.size ≤ 9000) (hg : Gl w) :
    Calls Tryz.prog 13 #[.string s] w fun e w' => ∃ v, e = .returned (.tuple #[v, .int .i64 m]) ∧ IntsA w' v (plS s.data.toList) ∧ Ow w w' := by
  subst hm
  exact ParseList_any s w hs hg
theorem split_e (w : World) (hg : Gl w) : Calls Tryz.prog 7 #[.string ⟨#[]⟩] w fun e w' => (∃ a c, e = .returned (.tuple #[.slice a 0 c, .int .i64 0])) ∧ Ow w w' := by
  refine (split_is ⟨#[]⟩ 0 (by decide +kernel) w (by decide) hg).mono fun e w' ⟨v, h1, h2, h3⟩ => ⟨?_, h3⟩
  have e0 : Wd.splitS (⟨#[]⟩ : ByteArray).data.toList = [] := by decide +kernel
  rw [e0] at h2
  rcases h2 with ⟨rfl, _⟩ | ⟨g, off, cap, rfl, _⟩
  · exact ⟨_, _, h1⟩
  · exact ⟨_, _, h1⟩
set_option maxHeartbeats 1000000 in
theorem list_e (a : Option Addr) (cap : Nat) (w : World) : Calls Tryz.prog 12 #[.slice a 0 cap] w fun e w' => e = .returned (.tuple #[.string ⟨#[45]⟩, .int .i64 0]) ∧ Ow w w' := by
  go_enter Tryz.func12, Tryz.ntmps12
  go_wp2
  go_loop [4, 6] (fun t i => i = .int .i64 0 ∧ t = .int .i64 0) (fun _ _ => 0)
  case atStart => exact ⟨rfl, rfl⟩
  case round =>
    obtain ⟨rfl, rfl⟩ := hrel
    go_wp2
    go_loop [8] (fun i => i = .int .i64 0) (fun _ => 0)
    case atStart => rfl
    case round =>
      obtain rfl := hrel
      go_wp2
      go_ret2
      exact ⟨rfl, (Ow.refl _).alloc _⟩
theorem list_a (v : Value) (l : List Int) (t : ByteArray) (m : Int) (ht : t.data.toList = Wd.listS l) (hm : Wd.listE l = m) (w : World) (hi : IntsA w v l) (hlen : l.length ≤ 100000) (hg : Gl w) :
    Calls Tryz.prog 12 #[v] w fun e w' => e = .returned (.tuple #[.string t, .int .i64 m]) ∧ Ow w w' := by
  rcases hi with ⟨rfl, a, cap, rfl⟩ | ⟨_, g, off, cap, rfl, hi⟩
  · refine (list_e a cap w).mono fun e w' ⟨h1, h2⟩ => ⟨?_, h2⟩
    have e1 : (⟨#[45]⟩ : ByteArray) = t := ba_ext (by rw [ht]; rfl)
    have e2 : m = 0 := hm.symm
    rw [h1, e1, e2]
  · refine (List_any g off cap l w hi hg hlen).mono fun e w' ⟨h1, h2⟩ => ⟨?_, h2⟩
    rw [h1, ← ht, ba_mk, hm]
end Go.Proofs.YtabopillicdjaaaGreatDoor

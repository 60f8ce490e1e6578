/- A slice of fields in memory; Split's contract with it. -/
import Derived.Test.YtaojogaakhidhaaDoorWSpl
import Derived.Test.YtaojogaakhidhaaDoorOpBx
namespace Go.Proofs.YtaojogaakhidhaaDoor
open Go.RowKit
open Wd (splitS splitE)

/-- A slice of fields that lies in memory. -/
def Flds (w : World) (v : Value) (fs : List (List UInt8 × Bool)) : Prop :=
  (v = .slice none 0 0 ∧ fs = []) ∨ ∃ g off cap, v = .slice (some ⟨g, off, none⟩) fs.length cap ∧ g < w.heap.size ∧ ∀ (i : Nat) x, fs[i]? = some x → w.cell? ⟨g, off + i * 2, none⟩ = some (.string ⟨x.1.toArray⟩) ∧ w.cell? ⟨g, off + i * 2 + 1, none⟩ = some (.bool x.2)
theorem Flds.then {w w' : World} {v : Value} {fs : List (List UInt8 × Bool)} (h : Flds w v fs) (hb : Ow w w') : Flds w' v fs := by
  rcases h with h | ⟨g, off, cap, h1, h2, h3⟩
  · exact .inl h
  · exact .inr ⟨g, off, cap, h1, Nat.lt_of_lt_of_le h2 hb.size, fun i x hx => ⟨(hb.cell (p := ⟨g, off + i * 2, none⟩) h2).trans (h3 i x hx).1, (hb.cell (p := ⟨g, off + i * 2 + 1, none⟩) h2).trans (h3 i x hx).2⟩⟩
theorem cellsF_at : ∀ (fs : List (List UInt8 × Bool)) (i : Nat) (x : List UInt8 × Bool), fs[i]? = some x → (cellsF fs)[i * 2]? = some (.string ⟨x.1.toArray⟩) ∧ (cellsF fs)[i * 2 + 1]? = some (.bool x.2)
  | [], i, x, h => by simp at h
  | y :: fs, 0, x, h => by
    simp only [List.getElem?_cons_zero, Option.some.injEq] at h
    subst h
    exact ⟨rfl, rfl⟩
  | y :: fs, i + 1, x, h => by
    have := cellsF_at fs i x (by simpa using h)
    rw [show (i + 1) * 2 = i * 2 + 2 by omega, show i * 2 + 2 + 1 = i * 2 + 1 + 2 by omega]
    exact this
theorem flds_own {w : World} {base : Nat} {v : Value} {fs : List (List UInt8 × Bool)} (h : w.ownsRow base 60 2 v fs.length (cellsF fs)) : Flds w v fs := by
  rcases Joins.ownsRow_forms h with ⟨rfl, h0⟩ | ⟨g, cap, rfl⟩
  · exact .inl ⟨rfl, List.length_eq_zero_iff.1 h0⟩
  · refine .inr ⟨g, 0, cap, rfl, (h.lt g rfl).2, fun i x hx => ?_⟩
    have hi := (List.getElem?_eq_some_iff.1 hx).1
    obtain ⟨h1, h2⟩ := cellsF_at fs i x hx
    rw [Nat.zero_add, h.cellAt (i * 2) (by omega), h.cellAt (i * 2 + 1) (by omega)]
    exact ⟨h1, h2⟩
theorem splitS_len (l : List UInt8) : (splitS l).length ≤ 64 := by
  unfold splitS
  split
  · simp
  · split
    · simp
    · split
      · simp
      · rename_i h
        exact Nat.le_of_not_lt (fun e => h (.inr e))
theorem split_is (s : ByteArray) (m : Int) (hm : splitE s.data.toList = m) (w : World) (hs : s.size ≤ 9000) (hg : Gl w) :
    Calls Tryd.prog 24 #[.string s] w fun e w' => ∃ v, e = .returned (.tuple #[v, .int .i64 m]) ∧ Flds w' v (splitS s.data.toList) ∧ Ow w w' := by
  subst hm
  exact (Split_any s w hs hg).mono fun e w' ⟨v, h1, h2, h3⟩ => ⟨v, h1, flds_own h2, h3⟩
/-- A field of the slice. -/
theorem Flds.at {w : World} {v : Value} {fs : List (List UInt8 × Bool)} (h : Flds w v fs) (hn : fs ≠ []) : ∃ g off cap, v = .slice (some ⟨g, off, none⟩) fs.length cap ∧ g < w.heap.size ∧ ∀ (i : Nat) x, fs[i]? = some x → w.cell? ⟨g, off + i * 2, none⟩ = some (.string ⟨x.1.toArray⟩) ∧ w.cell? ⟨g, off + i * 2 + 1, none⟩ = some (.bool x.2) := by
  rcases h with ⟨_, h⟩ | h
  · exact absurd h hn
  · exact h
end Go.Proofs.YtaojogaakhidhaaDoor

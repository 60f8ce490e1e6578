/- The law WordsJoins, walked. The law WordsBoth, walked. -/
import Derived.Test.YtabopillicdjaaaGreatDoorWRJn
import Derived.Test.YtabopillicdjaaaGreatDoorWFar
namespace Go.Proofs.YtabopillicdjaaaGreatDoor
open Go.RowKit
open Wd (joinE joinS)
theorem wjoin_is (v : Value) (fs : List (List UInt8 × Bool)) (t : ByteArray) (m : Int) (ht : t.data.toList = joinS fs) (hm : joinE fs = m) (w : World) (hf : FldsA w v fs) (hn : fs.length ≤ 100000) (hg : Gl w) : Calls Tryz.prog 8 #[v] w fun e w' => e = .returned (.tuple #[.string t, .int .i64 m]) ∧ Ow w w' := by
  have := join_any v fs w hf hn hg
  unfold JnPost at this
  rwa [← ht, ba_mk, hm] at this
end Go.Proofs.YtabopillicdjaaaGreatDoor
namespace Go.Proofs.YtabopillicdjaaaGreatDoor
open Go.RowKit
open Wd (joinE joinS joinT okF longF)

theorem joinE_zero {fs : List (List UInt8 × Bool)} : joinE fs = 0 ↔ (fs.length ≤ 64 ∧ fs.any longF = false) ∧ fs.all okF = true ∧ (joinT fs).length ≤ 8192 := by
  unfold joinE
  constructor
  · intro h
    split at h
    · cases h
    · rename_i h1
      split at h
      · cases h
      · rename_i h2
        split at h
        · cases h
        · rename_i h3
          rw [not_or] at h1
          exact ⟨⟨by omega, by simpa using h1.2⟩, by simpa using h2, by omega⟩
  · rintro ⟨⟨h1, h2⟩, h3, h4⟩
    rw [if_neg (by rw [h2]; simp; omega), if_neg (by rw [h3]; simp), if_neg (by omega)]
theorem any_app {α : Type} {p : α → Bool} {l m : List α} : (l ++ m).any p = false ↔ l.any p = false ∧ m.any p = false := by rw [List.any_append, Bool.or_eq_false_iff]
theorem all_app {α : Type} {p : α → Bool} {l m : List α} : (l ++ m).all p = true ↔ l.all p = true ∧ m.all p = true := by rw [List.all_append, Bool.and_eq_true]
theorem both_bad {fs gs : List (List UInt8 × Bool)} (hf : fs ≠ []) (hg : gs ≠ []) (h : joinE fs ≠ 0 ∨ joinE gs ≠ 0) : joinE (fs ++ gs) ≠ 0 := by
  intro e
  obtain ⟨⟨h1, h2⟩, h3, h4⟩ := joinE_zero.1 e
  rw [List.length_append] at h1
  obtain ⟨h2a, h2b⟩ := any_app.1 h2
  obtain ⟨h3a, h3b⟩ := all_app.1 h3
  rw [Wd.join_app fs gs hf hg, List.length_append, List.length_cons] at h4
  rcases h with h | h
  · exact h (joinE_zero.2 ⟨⟨by omega, h2a⟩, h3a, by omega⟩)
  · exact h (joinE_zero.2 ⟨⟨by omega, h2b⟩, h3b, by omega⟩)
theorem both_long {fs gs : List (List UInt8 × Bool)} (hf : fs ≠ []) (hg : gs ≠ []) (h1 : joinE fs = 0) (h2 : joinE gs = 0) (h : 64 < fs.length + gs.length ∨ 8192 < (joinT fs).length + 1 + (joinT gs).length) : joinE (fs ++ gs) = 3 ∧ joinS (fs ++ gs) = [] := by
  obtain ⟨⟨a1, a2⟩, a3, a4⟩ := joinE_zero.1 h1
  obtain ⟨⟨b1, b2⟩, b3, b4⟩ := joinE_zero.1 h2
  have e : joinE (fs ++ gs) = 3 := by
    unfold joinE
    by_cases hl : 64 < (fs ++ gs).length
    · rw [if_pos (.inl hl)]
    · rw [if_neg (by rw [any_app.2 ⟨a2, b2⟩]; simp at hl ⊢; omega), if_neg (by rw [all_app.2 ⟨a3, b3⟩]; simp), if_pos (by rw [List.length_append] at hl; rw [Wd.join_app fs gs hf hg, List.length_append, List.length_cons]; omega)]
  exact ⟨e, joinS_no e (by decide)⟩
theorem both_ok {fs gs : List (List UInt8 × Bool)} (hf : fs ≠ []) (hg : gs ≠ []) (h1 : joinE fs = 0) (h2 : joinE gs = 0) (h3 : ¬ 64 < fs.length + gs.length) (h4 : ¬ 8192 < (joinT fs).length + 1 + (joinT gs).length) : joinE (fs ++ gs) = 0 ∧ joinS (fs ++ gs) = (joinS fs ++ [32]) ++ joinS gs := by
  obtain ⟨⟨a1, a2⟩, a3, a4⟩ := joinE_zero.1 h1
  obtain ⟨⟨b1, b2⟩, b3, b4⟩ := joinE_zero.1 h2
  have e : joinE (fs ++ gs) = 0 := joinE_zero.2 ⟨⟨by rw [List.length_append]; omega, any_app.2 ⟨a2, b2⟩⟩, all_app.2 ⟨a3, b3⟩, by rw [Wd.join_app fs gs hf hg, List.length_append, List.length_cons]; omega⟩
  refine ⟨e, ?_⟩
  unfold joinS
  rw [if_pos e, if_pos h1, if_pos h2, Wd.join_app fs gs hf hg]
  simp
theorem cellsF_app (fs gs : List (List UInt8 × Bool)) : cellsF (fs ++ gs) = cellsF fs ++ cellsF gs := by simp [cellsF]
theorem cellsF_all : ∀ (fs : List (List UInt8 × Bool)) (j : Nat) (u : Value), (cellsF fs)[j]? = some u → ∃ i x, fs[i]? = some x ∧ ((j = i * 2 ∧ u = .string ⟨x.1.toArray⟩) ∨ (j = i * 2 + 1 ∧ u = .bool x.2))
  | [], j, u, h => by simp [cellsF] at h
  | y :: fs, 0, u, h => ⟨0, y, rfl, .inl ⟨rfl, by simpa [cellsF] using h.symm⟩⟩
  | y :: fs, 1, u, h => ⟨0, y, rfl, .inr ⟨rfl, by simpa [cellsF] using h.symm⟩⟩
  | y :: fs, j + 2, u, h => by
    obtain ⟨i, x, hx, h⟩ := cellsF_all fs j u (by simpa [cellsF] using h)
    exact ⟨i + 1, x, by simpa using hx, by rcases h with ⟨h1, h2⟩ | ⟨h1, h2⟩; exact .inl ⟨by omega, h2⟩; exact .inr ⟨by omega, h2⟩⟩
theorem cellsF_one (fs : List (List UInt8 × Bool)) : ∀ u ∈ cellsF fs, u.oneCell' = true := by
  intro u hu
  obtain ⟨j, hj⟩ := List.getElem?_of_mem hu
  obtain ⟨i, x, _, ⟨_, rfl⟩ | ⟨_, rfl⟩⟩ := cellsF_all fs j u hj <;> rfl
theorem flds_both {w : World} {base : Nat} {v : Value} {fs gs : List (List UInt8 × Bool)} (h : w.ownsRow base 51 2 v (fs.length + gs.length) (cellsF fs ++ cellsF gs)) : FldsA w v (fs ++ gs) := by
  rw [← cellsF_app, ← List.length_append] at h
  exact (flds_own h).any
theorem cells_src {w W : World} {g off : Nat} {fs : List (List UInt8 × Bool)} (hg : g < w.heap.size) (hb : Ow w W) (hc : ∀ (i : Nat) x, fs[i]? = some x → w.cell? ⟨g, off + i * 2, none⟩ = some (.string ⟨x.1.toArray⟩) ∧ w.cell? ⟨g, off + i * 2 + 1, none⟩ = some (.bool x.2)) :
    ∀ j u, (cellsF fs)[j]? = some u → W.cell? ((⟨g, off, none⟩ : Addr).add j) = some u := by
  intro j u hj
  have ha : (⟨g, off, none⟩ : Addr).add j = ⟨g, off + j, none⟩ := by cases j <;> simp [Addr.add]
  rw [ha, hb.cell (p := ⟨g, off + j, none⟩) hg]
  obtain ⟨i, x, hx, ⟨rfl, rfl⟩ | ⟨rfl, rfl⟩⟩ := cellsF_all fs j u hj
  · exact (hc i x hx).1
  · exact (hc i x hx).2

end Go.Proofs.YtabopillicdjaaaGreatDoor

/- Package words: Join. -/
import Derived.Test.YtabopillicdjaaaGreatDoorWLQte
import Derived.Test.YtabopillicdjaaaGreatDoorWJoin
namespace Go.Proofs.YtabopillicdjaaaGreatDoor
open Go.RowKit
open Wd (fieldT joinT joinE joinS okF longF quoteL bareB)

/-- A slice of fields, wherever it lies. -/
def FldsA (w : World) (v : Value) (fs : List (List UInt8 × Bool)) : Prop :=
  (fs = [] ∧ ∃ a cap, v = .slice a 0 cap) ∨ (fs ≠ [] ∧ ∃ g off cap, v = .slice (some ⟨g, off, none⟩) fs.length cap ∧ g < w.heap.size ∧ ∀ (i : Nat) x, fs[i]? = some x → w.cell? ⟨g, off + i * 2, none⟩ = some (.string ⟨x.1.toArray⟩) ∧ w.cell? ⟨g, off + i * 2 + 1, none⟩ = some (.bool x.2))
theorem Flds.any {w : World} {v : Value} {fs : List (List UInt8 × Bool)} (h : Flds w v fs) : FldsA w v fs := by
  by_cases h0 : fs = []
  · refine .inl ⟨h0, ?_⟩
    rcases h with ⟨rfl, _⟩ | ⟨g, off, cap, rfl, _⟩
    · exact ⟨_, _, rfl⟩
    · subst h0; exact ⟨_, _, rfl⟩
  · exact .inr ⟨h0, h.resolve_left (fun e => h0 e.2)⟩
theorem FldsA.then {w w' : World} {v : Value} {fs : List (List UInt8 × Bool)} (h : FldsA w v fs) (hb : Ow w w') : FldsA w' v fs := by
  rcases h with h | ⟨h0, g, off, cap, h1, h2, h3⟩
  · exact .inl h
  · exact .inr ⟨h0, g, off, cap, h1, Nat.lt_of_lt_of_le h2 hb.size, fun i x hx => ⟨(hb.cell (p := ⟨g, off + i * 2, none⟩) h2).trans (h3 i x hx).1, (hb.cell (p := ⟨g, off + i * 2 + 1, none⟩) h2).trans (h3 i x hx).2⟩⟩

theorem join_own (v : Value) (base : Nat) (xs : List ByteArray) (u : ByteArray) (w : World) (h : w.ownsRow base 9 1 v xs.length (xs.map Value.string)) (hu : u.data.toList = Lib.join (xs.map (·.data.toList)) [32]) (hn : xs.length ≤ 100000) (hl : u.size ≤ 100000000000) :
    Calls Tryz.prog 25 #[v, .string ⟨#[32]⟩] w fun e w' => e = .returned (.string u) ∧ Ow w w' := by
  rcases Nat.eq_zero_or_pos xs.length with h0 | h0
  · have hx : xs = [] := List.length_eq_zero_iff.1 h0
    subst hx
    obtain ⟨a, cap, rfl⟩ : ∃ a cap, v = .slice a 0 cap := by
      rcases Joins.ownsRow_forms h with ⟨rfl, _⟩ | ⟨g, cap, rfl⟩
      · exact ⟨_, _, rfl⟩
      · exact ⟨_, _, rfl⟩
    refine (Tryz.strings_Join_none a cap ⟨#[32]⟩ w).mono fun e w' ⟨h1, h2⟩ => ⟨?_, by rw [h2]; exact Ow.refl _⟩
    rw [h1]
    have : (⟨#[]⟩ : ByteArray) = u := ba_ext (by rw [hu]; rfl)
    rw [this]
  · obtain ⟨g, cap, rfl, hc, hlt, hcells⟩ := own_strs h h0
    refine (Tryz.strings_Join g 0 cap xs ⟨#[32]⟩ w hcells hlt (by omega) hc ?_).mono fun e w' ⟨h1, h2⟩ => ⟨?_, h2⟩
    · show (Lib.join (xs.map (·.data.toList)) [32]).length ≤ _
      rw [← hu, ba_len]; omega
    · rw [h1]
      show Ending.returned (.string ⟨(Lib.join (xs.map (·.data.toList)) [32]).toArray⟩) = _
      rw [← hu, ba_mk]

/-! The plain part. -/
theorem joinS_no {fs : List (List UInt8 × Bool)} {m : Int} (h : joinE fs = m) (hm : m ≠ 0) : joinS fs = [] := by unfold joinS; rw [if_neg (by rw [h]; exact hm)]
theorem join_many {fs : List (List UInt8 × Bool)} (h : 64 < fs.length) : joinS fs = [] ∧ joinE fs = 3 := by
  have e : joinE fs = 3 := by unfold joinE; rw [if_pos (.inl h)]
  exact ⟨joinS_no e (by decide), e⟩
theorem join_far {fs : List (List UInt8 × Bool)} {k : Nat} {x : List UInt8 × Bool} (hx : fs[k]? = some x) (h : longF x = true) : joinS fs = [] ∧ joinE fs = 3 := by
  have e : joinE fs = 3 := by unfold joinE; rw [if_pos (.inr (List.any_eq_true.2 ⟨x, List.mem_of_getElem? hx, h⟩))]
  exact ⟨joinS_no e (by decide), e⟩
theorem esc_flat4 (s : List UInt8) : (quoteL s).length ≤ 4 * s.length + 2 := by
  have := qt_len s
  rw [Wd.quote_len]; omega
theorem fieldT_le {x : List UInt8 × Bool} (h : longF x = false) : (fieldT x).length ≤ 8002 := by
  have h2 : x.1.length ≤ 2000 := by simpa [longF] using h
  unfold fieldT
  split
  · have := esc_flat4 x.1; omega
  · omega
theorem joinT_le : ∀ (fs : List (List UInt8 × Bool)), (∀ x ∈ fs, longF x = false) → (joinT fs).length ≤ 8003 * fs.length
  | [], _ => by simp [joinT, Lib.join, List.intercalate]
  | [x], h => by rw [Wd.join_one]; have := fieldT_le (h x (by simp)); simp; omega
  | x :: y :: fs, h => by
    rw [Wd.join_cons x (fs := y :: fs) (by simp)]
    have h1 := fieldT_le (h x (by simp))
    have h2 := joinT_le (y :: fs) (fun z hz => h z (by simp [hz]))
    simp only [List.length_append, List.length_cons] at h2 ⊢
    omega
/-- What stands behind k rounds. -/
structure JI (fs : List (List UInt8 × Bool)) (k : Nat) (f : Int) (xs : List ByteArray) : Prop where
  len : xs.length = k
  map : xs.map (·.data.toList) = (fs.take k).map fieldT
  short : ∀ x ∈ fs.take k, longF x = false
  form : (f = 0 ∧ (fs.take k).all okF = true) ∨ (f = 6 ∧ fs.all okF = false)
theorem JI.start (fs : List (List UInt8 × Bool)) : JI fs 0 0 [] := ⟨rfl, rfl, by simp, .inl ⟨rfl, rfl⟩⟩
theorem JI.good {fs : List (List UInt8 × Bool)} {k : Nat} {f : Int} {xs : List ByteArray} (h : JI fs k f xs) {x : List UInt8 × Bool} (hx : fs[k]? = some x) (hl : longF x = false) (ho : okF x = true) {t : ByteArray} (ht : t.data.toList = fieldT x) : JI fs (k + 1) f (xs ++ [t]) := by
  have e : fs.take (k + 1) = fs.take k ++ [x] := by rw [List.take_add_one, hx]; rfl
  refine ⟨by simp [h.len], by rw [e]; simp [h.map, ht], by rw [e]; intro y hy; rcases List.mem_append.1 hy with hy | hy; exact h.short y hy; simp at hy; subst hy; exact hl, ?_⟩
  rcases h.form with ⟨h1, h2⟩ | h1
  · exact .inl ⟨h1, by rw [e]; simp only [List.all_append, h2, List.all_cons, ho, List.all_nil]; rfl⟩
  · exact .inr h1
theorem JI.bad {fs : List (List UInt8 × Bool)} {k : Nat} {f : Int} {xs : List ByteArray} (h : JI fs k f xs) {x : List UInt8 × Bool} (hx : fs[k]? = some x) (hl : longF x = false) (ho : okF x = false) {t : ByteArray} (ht : t.data.toList = fieldT x) : JI fs (k + 1) 6 (xs ++ [t]) := by
  have e : fs.take (k + 1) = fs.take k ++ [x] := by rw [List.take_add_one, hx]; rfl
  refine ⟨by simp [h.len], by rw [e]; simp [h.map, ht], by rw [e]; intro y hy; rcases List.mem_append.1 hy with hy | hy; exact h.short y hy; simp at hy; subst hy; exact hl, .inr ⟨rfl, ?_⟩⟩
  rw [List.all_eq_false]
  exact ⟨x, List.mem_of_getElem? hx, by rw [ho]; simp⟩
theorem JI.done {fs : List (List UInt8 × Bool)} {f : Int} {xs : List ByteArray} (h : JI fs fs.length f xs) (hn : fs.length ≤ 64) : Lib.join (xs.map (·.data.toList)) [32] = joinT fs ∧ (joinT fs).length ≤ 1000000 ∧ (f = 0 ∨ f = 6) ∧
    (f = 6 → joinS fs = [] ∧ joinE fs = 6) ∧ (f = 0 → 8192 < (joinT fs).length → joinS fs = [] ∧ joinE fs = 3) ∧ (f = 0 → ¬ 8192 < (joinT fs).length → joinS fs = joinT fs ∧ joinE fs = 0) := by
  have hm := h.map
  have hs := h.short
  have hf := h.form
  rw [List.take_length] at hm hs hf
  have hno : fs.any longF = false := by rw [List.any_eq_false]; intro x hx; rw [hs x hx]; simp
  have hnn : ¬ (64 < fs.length ∨ fs.any longF = true) := by rw [hno]; simp; omega
  refine ⟨by rw [hm]; rfl, by have := joinT_le fs hs; omega, by rcases hf with h | h; exact .inl h.1; exact .inr h.1, ?_, ?_, ?_⟩
  · rintro rfl
    have ha : fs.all okF = false := by rcases hf with h | h; exact absurd h.1 (by decide); exact h.2
    have e : joinE fs = 6 := by unfold joinE; rw [if_neg hnn, if_pos ha]
    exact ⟨joinS_no e (by decide), e⟩
  · rintro rfl hb
    have ha : ¬ fs.all okF = false := by rcases hf with h | h; rw [h.2]; simp; exact absurd h.1 (by decide)
    have e : joinE fs = 3 := by unfold joinE; rw [if_neg hnn, if_neg ha, if_pos hb]
    exact ⟨joinS_no e (by decide), e⟩
  · rintro rfl hb
    have ha : ¬ fs.all okF = false := by rcases hf with h | h; rw [h.2]; simp; exact absurd h.1 (by decide)
    have e : joinE fs = 0 := by unfold joinE; rw [if_neg hnn, if_neg ha, if_neg hb]
    exact ⟨by unfold joinS; rw [if_pos e], e⟩
def JnPost (fs : List (List UInt8 × Bool)) (w : World) (e : Ending) (w' : World) : Prop := e = .returned (.tuple #[.string ⟨(joinS fs).toArray⟩, .int .i64 (joinE fs)]) ∧ Ow w w'
end Go.Proofs.YtabopillicdjaaaGreatDoor

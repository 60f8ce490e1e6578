/- The reference of chapter 1: Join. -/
import Derived.Test.YtabopillicdjaaaGreatDoorWJnW
import Derived.Test.YtabopillicdjaaaGreatDoorWRDig
namespace Go.Proofs.YtabopillicdjaaaGreatDoor
open Go.RowKit
open Wd (fieldT joinT joinE joinS okF longF quoteL bareB)

theorem joinT_snoc {fs : List (List UInt8 × Bool)} {k : Nat} {x : List UInt8 × Bool} (hx : fs[k]? = some x) (hk : 0 < k) : joinT (fs.take (k + 1)) = (joinT (fs.take k) ++ [32]) ++ fieldT x := by
  rw [List.take_add_one, hx, Option.toList_some, Wd.join_app _ _ (by
    intro e
    have h1 := congrArg List.length e
    have h2 := (List.getElem?_eq_some_iff.1 hx).1
    rw [List.length_take, List.length_nil] at h1
    omega) (by simp), Wd.join_one]
  simp
theorem joinT_first {fs : List (List UInt8 × Bool)} {x : List UInt8 × Bool} (hx : fs[0]? = some x) : joinT (fs.take (0 + 1)) = fieldT x := by
  rw [List.take_add_one, hx, Option.toList_some]
  simp [Wd.join_one]
theorem join_formless {fs : List (List UInt8 × Bool)} {k : Nat} {x : List UInt8 × Bool} (hn : fs.length ≤ 64) (hs : ∀ x ∈ fs, longF x = false) (hx : fs[k]? = some x) (h : okF x = false) : joinS fs = [] ∧ joinE fs = 6 := by
  have hno : fs.any longF = false := by rw [List.any_eq_false]; intro x hx; rw [hs x hx]; simp
  have hnn : ¬ (64 < fs.length ∨ fs.any longF = true) := by rw [hno]; simp; omega
  have ha : fs.all okF = false := by rw [List.all_eq_false]; exact ⟨x, List.mem_of_getElem? hx, by rw [h]; simp⟩
  have e : joinE fs = 6 := by unfold joinE; rw [if_neg hnn, if_pos ha]
  exact ⟨joinS_no e (by decide), e⟩
theorem join_end {fs : List (List UInt8 × Bool)} (hn : fs.length ≤ 64) (hs : ∀ x ∈ fs, longF x = false) (ha : fs.all okF = true) : (8192 < (joinT fs).length → joinS fs = [] ∧ joinE fs = 3) ∧ (¬ 8192 < (joinT fs).length → joinS fs = joinT fs ∧ joinE fs = 0) := by
  have hno : fs.any longF = false := by rw [List.any_eq_false]; intro x hx; rw [hs x hx]; simp
  have hnn : ¬ (64 < fs.length ∨ fs.any longF = true) := by rw [hno]; simp; omega
  have hna : ¬ fs.all okF = false := by rw [ha]; simp
  refine ⟨fun hb => ?_, fun hb => ?_⟩
  · have e : joinE fs = 3 := by unfold joinE; rw [if_neg hnn, if_neg hna, if_pos hb]
    exact ⟨joinS_no e (by decide), e⟩
  · have e : joinE fs = 0 := by unfold joinE; rw [if_neg hnn, if_neg hna, if_neg hb]
    exact ⟨by unfold joinS; rw [if_pos e], e⟩
theorem sz_sep (u f : ByteArray) (k : Nat) (h1 : u.size ≤ 8003 * k) (h2 : f.size ≤ 8002) : (u ++ ⟨#[32]⟩ ++ f).size ≤ 8003 * (k + 1) := by
  have e1 : (⟨#[32]⟩ : ByteArray).size = 1 := rfl
  simp only [ByteArray.size_append, e1]; omega
/-- The first k fields are short. -/
def ShortTo (fs : List (List UInt8 × Bool)) (k : Nat) : Prop := ∀ x ∈ fs.take k, longF x = false
theorem ShortTo.next {fs : List (List UInt8 × Bool)} {k : Nat} {x : List UInt8 × Bool} (h : ShortTo fs k) (hx : fs[k]? = some x) (hl : longF x = false) : ShortTo fs (k + 1) := by
  intro y hy
  rw [List.take_add_one, hx, Option.toList_some] at hy
  rcases List.mem_append.1 hy with hy | hy
  · exact h y hy
  · simp at hy; subst hy; exact hl
theorem ShortTo.all {fs : List (List UInt8 × Bool)} {k : Nat} (h : ShortTo fs k) (hk : fs.length ≤ k) : ∀ x ∈ fs, longF x = false := by
  intro x hx
  refine h x ?_
  rwa [List.take_of_length_le hk]
def OkTo (fs : List (List UInt8 × Bool)) (k : Nat) : Prop := (fs.take k).all okF = true
theorem OkTo.next {fs : List (List UInt8 × Bool)} {k : Nat} {x : List UInt8 × Bool} (h : OkTo fs k) (hx : fs[k]? = some x) (hl : okF x = true) : OkTo fs (k + 1) := by
  unfold OkTo at h ⊢
  rw [List.take_add_one, hx, Option.toList_some, List.all_append, h]
  simp [hl]

end Go.Proofs.YtabopillicdjaaaGreatDoor

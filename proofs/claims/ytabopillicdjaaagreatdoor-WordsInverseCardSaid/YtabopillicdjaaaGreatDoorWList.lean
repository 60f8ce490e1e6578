/- The plain laws of chapter 1: list expressions written. No program in sight. -/
import Derived.Test.YtabopillicdjaaaGreatDoorWNum
namespace Go.Proofs.YtabopillicdjaaaGreatDoor.Wd

/-- How many integers behind a go on consecutively. -/
def runN : Int → List Int → Nat
  | _, [] => 0
  | a, b :: r => if b = a + 1 then runN b r + 1 else 0
def runT (a b : Int) : List UInt8 := Lib.itoa a ++ (if a < b then 45 :: Lib.itoa b else [])
/-- The runs' texts, a comma ahead of each. -/
def restF : Nat → List Int → List UInt8
  | 0, _ => []
  | f + 1, l => match l with
    | [] => []
    | a :: r => 44 :: (runT a (a + runN a r) ++ restF f (r.drop (runN a r)))
def restT (l : List Int) : List UInt8 := restF (l.length + 1) l
def listT (l : List Int) : List UInt8 := if l = [] then [45] else (restT l).tail
def ascB : List Int → Bool
  | a :: b :: r => decide (a < b) && ascB (b :: r)
  | _ => true
def outB (n : Int) : Bool := decide (n < 0 ∨ 1000000000 < n)
/-- What List returns. -/
def listE (l : List Int) : Int := if 500 < l.length then 3 else if l.any outB = true then 7 else if ascB l = false then 6 else 0
def listS (l : List Int) : List UInt8 := if listE l = 0 then listT l else []

theorem runN_le : ∀ (l : List Int) (a : Int), runN a l ≤ l.length
  | [], _ => Nat.le_refl _
  | b :: r, a => by rw [runN]; have := runN_le r b; split <;> simp; omega
theorem restF_same : ∀ (f g : Nat) (l : List Int), l.length < f → l.length < g → restF f l = restF g l
  | 0, _, l, h, _ => absurd h (Nat.not_lt_zero _)
  | _, 0, l, _, h => absurd h (Nat.not_lt_zero _)
  | f + 1, g + 1, [], _, _ => rfl
  | f + 1, g + 1, a :: r, hf, hg => by
    simp only [List.length_cons] at hf hg
    rw [restF, restF, restF_same f g (r.drop (runN a r)) (by simp; omega) (by simp; omega)]
theorem restT_nil : restT [] = [] := rfl
theorem restT_cons (a : Int) (r : List Int) : restT (a :: r) = 44 :: (runT a (a + runN a r) ++ restT (r.drop (runN a r))) := by
  conv => lhs; unfold restT restF
  unfold restT
  simp only
  rw [restF_same (a :: r).length ((r.drop (runN a r)).length + 1) (r.drop (runN a r)) (by simp; omega) (by omega)]
/-- A run is known by its numbers. -/
theorem runN_eq : ∀ (l : List Int) (a : Int) (k : Nat), (∀ j, j < k → l[j]? = some (a + 1 + (j : Nat))) → l[k]? ≠ some (a + 1 + k) → runN a l = k
  | [], a, k, h, _ => by
    cases k with
    | zero => rfl
    | succ k => have := h 0 (by omega); simp at this
  | b :: r, a, k, h, hk => by
    cases k with
    | zero =>
      rw [runN, if_neg]
      intro e
      apply hk
      simp [e]
    | succ k =>
      have h0 := h 0 (by omega)
      simp at h0
      subst h0
      have h1 : ∀ j, j < k → r[j]? = some (a + 1 + 1 + (j : Nat)) := fun j hj => by
        have := h (j + 1) (by omega)
        simp only [List.getElem?_cons_succ] at this
        rw [this]
        congr 1
        omega
      have h2 : r[k]? ≠ some (a + 1 + 1 + k) := fun e => by
        apply hk
        simp only [List.getElem?_cons_succ]
        rw [e]
        congr 1
        omega
      rw [runN, if_pos rfl, runN_eq r (a + 1) k h1 h2]
theorem runN_at : ∀ (l : List Int) (a : Int) (j : Nat), j < runN a l → l[j]? = some (a + 1 + (j : Nat))
  | [], a, j, h => absurd h (Nat.not_lt_zero _)
  | b :: r, a, j, h => by
    rw [runN] at h
    split at h
    · rename_i e
      subst e
      cases j with
      | zero => simp
      | succ j =>
        have := runN_at r (a + 1) j (by omega)
        simp only [List.getElem?_cons_succ]
        rw [this]
        congr 1
        omega
    · omega
/-- Is a list ascending? place by place. -/
theorem asc_iff : ∀ (l : List Int), ascB l = true ↔ ∀ (j : Nat) a b, l[j]? = some a → l[j + 1]? = some b → a < b
  | [] => by simp [ascB]
  | [x] => by
    simp only [ascB, true_iff]
    intro j a b h1 h2
    simp at h2
  | x :: y :: r => by
    have ih := asc_iff (y :: r)
    rw [ascB, Bool.and_eq_true, ih, decide_eq_true_eq]
    constructor
    · rintro ⟨h, hr⟩ j a b h1 h2
      cases j with
      | zero => simp at h1 h2; omega
      | succ j => exact hr j a b (by simpa using h1) (by simpa using h2)
    · intro h
      exact ⟨h 0 x y rfl rfl, fun j a b h1 h2 => h (j + 1) a b (by simpa using h1) (by simpa using h2)⟩

end Go.Proofs.YtabopillicdjaaaGreatDoor.Wd

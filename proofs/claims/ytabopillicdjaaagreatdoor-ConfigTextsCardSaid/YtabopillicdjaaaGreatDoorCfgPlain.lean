/- The plain laws of chapter 2: no program in sight. -/
namespace Go.Proofs.YtabopillicdjaaaGreatDoor

/-- Is a config as stated? (the numbers in the order C N S K Q) -/
def okC (C N S K Q : Int) : Bool := decide (7 ≤ N ∧ N ≤ 24 ∧ 8 ≤ C ∧ C ≤ 64 ∧ 4 ≤ S ∧ S ≤ 64 ∧ 1 ≤ K ∧ K ≤ 8 ∧ 2 ≤ Q ∧ Q ≤ 16)
def chkE (C N S K Q : Int) : Int := if okC C N S K Q = true then 0 else 7
def wdV (C N S K Q : Int) : Int := if okC C N S K Q = true then 1 + S + N * C else 0
def lgV (C N S K Q : Int) : Int := if okC C N S K Q = true then min (C / 2) S else 0
def bgV (C N S K Q : Int) : Int := if okC C N S K Q = true then (N - 6) * C else 0
def bdV (C N S K Q : Int) : Int := if okC C N S K Q = true then (N + 1) * (N + 1) * (N * C + 1) else 0
def spOk (C N S K Q car : Int) : Bool := okC C N S K Q && decide (-1 ≤ car ∧ car < N)
def spX (C N S K Q car : Int) : Int := if spOk C N S K Q car = true then 0 else 7
def spS (C N S K Q car : Int) : Int := if spOk C N S K Q car = true then (if car < 0 then 1 else 1 + S + car * C) else 0
def spE (C N S K Q car : Int) : Int := if spOk C N S K Q car = true then (if car < 0 then 1 + S else 1 + S + car * C + C) else 0
def plOk (C N S K Q a : Int) : Bool := okC C N S K Q && decide (1 ≤ a ∧ a < 1 + S + N * C)
def plX (C N S K Q a : Int) : Int := if plOk C N S K Q a = true then 0 else 7
def plC (C N S K Q a : Int) : Int := if plOk C N S K Q a = true then (if a ≤ S then -1 else (a - (1 + S)) / C) else 0
def plO (C N S K Q a : Int) : Int := if plOk C N S K Q a = true then (if a ≤ S then a - 1 else (a - (1 + S)) % C) else 0
def adOk (C N S K Q car off : Int) : Bool := spOk C N S K Q car && decide (0 ≤ off ∧ off < spE C N S K Q car - spS C N S K Q car)
def adX (C N S K Q car off : Int) : Int := if adOk C N S K Q car off = true then 0 else 7
def adV (C N S K Q car off : Int) : Int := if adOk C N S K Q car off = true then spS C N S K Q car + off else 0
def ftB (C N S K Q n : Int) : Bool := okC C N S K Q && decide (1 ≤ n ∧ n ≤ lgV C N S K Q)

def inB (n low high : Int) : Bool := decide (low ≤ n ∧ n ≤ high)
theorem okC_in (C N S K Q : Int) : okC C N S K Q = (inB C 8 64 && inB N 7 24 && inB S 4 64 && inB K 1 8 && inB Q 2 16) := by
  simp only [okC, inB, ← Bool.decide_and]
  apply decide_eq_decide.2
  omega
theorem okC_bounds {C N S K Q : Int} (h : okC C N S K Q = true) : 7 ≤ N ∧ N ≤ 24 ∧ 8 ≤ C ∧ C ≤ 64 ∧ 4 ≤ S ∧ S ≤ 64 ∧ 1 ≤ K ∧ K ≤ 8 ∧ 2 ≤ Q ∧ Q ≤ 16 := by
  simpa only [okC, decide_eq_true_eq] using h
theorem mul_bounds {C N : Int} (a : 7 ≤ N) (b : N ≤ 24) (c : 8 ≤ C) (d : C ≤ 64) : 56 ≤ N * C ∧ N * C ≤ 1536 := by
  constructor
  · have := Int.mul_le_mul a c (by omega) (by omega); omega
  · have := Int.mul_le_mul b d (by omega) (by omega); omega
theorem mul_upto {C k m : Int} (a : 0 ≤ k) (b : k ≤ m) (c : 8 ≤ C) (d : C ≤ 64) (e : m ≤ 24) : 0 ≤ k * C ∧ k * C ≤ 1536 ∧ k * C ≤ m * C := by
  refine ⟨Int.mul_nonneg a (by omega), ?_, Int.mul_le_mul_of_nonneg_right b (by omega)⟩
  have := Int.mul_le_mul (show k ≤ 24 by omega) d (by omega) (by omega); omega
theorem mul_next (C k m : Int) (a : k + 1 ≤ m) (c : 8 ≤ C) : k * C + C ≤ m * C := by
  have := Int.mul_le_mul_of_nonneg_right a (show (0 : Int) ≤ C by omega)
  rw [Int.add_mul] at this; omega
theorem sq_bounds {N : Int} (a : 7 ≤ N) (b : N ≤ 24) : 64 ≤ (N + 1) * (N + 1) ∧ (N + 1) * (N + 1) ≤ 625 := by
  constructor
  · have := Int.mul_le_mul (show 8 ≤ N + 1 by omega) (show 8 ≤ N + 1 by omega) (by omega) (by omega); omega
  · have := Int.mul_le_mul (show N + 1 ≤ 25 by omega) (show N + 1 ≤ 25 by omega) (by omega) (by omega); omega
theorem cube_bounds {x y : Int} (a : 64 ≤ x) (b : x ≤ 625) (c : 56 ≤ y) (d : y ≤ 1536) : 0 ≤ x * (y + 1) ∧ x * (y + 1) ≤ 960625 := by
  constructor
  · exact Int.mul_nonneg (by omega) (by omega)
  · have := Int.mul_le_mul b (show y + 1 ≤ 1537 by omega) (by omega) (by omega); omega

end Go.Proofs.YtabopillicdjaaaGreatDoor

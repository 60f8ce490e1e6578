/- The statements of chapter 1: far. -/
import Derived.Test.YtabopillicdjaaaGreatDoorWArg
namespace Go.Proofs.YtabopillicdjaaaGreatDoor
open Go.RowKit

def sumF (fs : List (List UInt8 × Bool)) : Nat := (fs.map fun x => x.1.length).sum
/-- Are fields more than is examined? -/
def farB (fs : List (List UInt8 × Bool)) : Bool := decide (70 < fs.length) || (fs.any fun x => decide (2100 < x.1.length)) || decide (12000 < sumF fs)
theorem far_many {fs : List (List UInt8 × Bool)} (h : 70 < fs.length) : farB fs = true := by simp [farB, h]
theorem far_one {fs : List (List UInt8 × Bool)} {k : Nat} {x : List UInt8 × Bool} (hx : fs[k]? = some x) (h : 2100 < x.1.length) : farB fs = true := by
  have : (fs.any fun x => decide (2100 < x.1.length)) = true := List.any_eq_true.2 ⟨x, List.mem_of_getElem? hx, by simpa using h⟩
  simp [farB, this]
theorem far_sum {fs : List (List UInt8 × Bool)} (h : fs.length ≤ 70) (h2 : ∀ x ∈ fs, x.1.length ≤ 2100) : farB fs = decide (12000 < sumF fs) := by
  have h3 : (fs.any fun x => decide (2100 < x.1.length)) = false := by
    rw [List.any_eq_false]; intro x hx; have := h2 x hx; simp; omega
  have h4 : decide (70 < fs.length) = false := decide_eq_false (by omega)
  simp only [farB, h3, h4, Bool.false_or]
theorem far_len {fs : List (List UInt8 × Bool)} (h : farB fs = false) : fs.length ≤ 70 := by
  rcases Nat.lt_or_ge 70 fs.length with h1 | h1
  · rw [far_many h1] at h; cases h
  · exact h1
/-- What stands behind k rounds. -/
def FarTo (fs : List (List UInt8 × Bool)) (k n : Nat) : Prop := (∀ x ∈ fs.take k, x.1.length ≤ 2100) ∧ n = sumF (fs.take k) ∧ n ≤ 2100 * k
theorem FarTo.next {fs : List (List UInt8 × Bool)} {k n : Nat} {x : List UInt8 × Bool} (h : FarTo fs k n) (hx : fs[k]? = some x) (hl : x.1.length ≤ 2100) : FarTo fs (k + 1) (n + x.1.length) := by
  obtain ⟨h1, h2, h3⟩ := h
  have e : fs.take (k + 1) = fs.take k ++ [x] := by rw [List.take_add_one, hx]; rfl
  refine ⟨fun y hy => ?_, by rw [e, h2]; simp [sumF], by omega⟩
  rw [e] at hy
  rcases List.mem_append.1 hy with hy | hy
  · exact h1 y hy
  · simp at hy; subst hy; exact hl
set_option maxRecDepth 100000 in
set_option maxHeartbeats 2000000 in
theorem far_any (v : Value) (fs : List (List UInt8 × Bool)) (b : Bool) (hb : farB fs = b) (w : World) (hf : FldsA w v fs) (hn : fs.length ≤ 9223372036854775807) :
    Calls Tryz.prog 5 #[v] w fun e w' => e = .returned (.bool b) ∧ w = w' := by
  subst hb
  rcases hf with ⟨rfl, a, cap, rfl⟩ | ⟨hne, g, off, cap, rfl, hg, hcells⟩
  · clear hn
    go_enter Tryz.func5, Tryz.ntmps5
    go_wp2
    go_loopw [3, 4] (fun s i wr => s = .int .i64 0 ∧ i = .int .i64 0 ∧ w = wr) (fun _ _ _ => 0)
    case atStart => exact ⟨rfl, rfl, rfl⟩
    case round =>
      obtain ⟨rfl, rfl, rfl⟩ := hrel
      go_wp2
      go_ret
      exact ⟨rfl, rfl⟩
  · by_cases h70 : 70 < fs.length
    · have HF := Lib.hid (far_many h70)
      have e1 : decide (70 < fs.length) = true := by simpa using h70
      clear hcells
      go_enter Tryz.func5, Tryz.ntmps5
      go_wp2
      go_ret
      rw [HF.out]
      exact ⟨rfl, rfl⟩
    · have hn70 : fs.length ≤ 70 := by omega
      have HC := Lib.hid hcells
      clear hcells hne hn h70
      go_enter Tryz.func5, Tryz.ntmps5
      go_wp2
      go_loopw [3, 4] (fun s i wr => ∃ k n : Nat, k ≤ fs.length ∧ i = .int .i64 k ∧ s = .int .i64 n ∧ FarTo fs k n ∧ w = wr) (fun _ i _ => fs.length - (intOf i).toNat)
      case atStart => exact ⟨0, 0, by omega, rfl, rfl, ⟨by simp, by simp [sumF], by omega⟩, rfl⟩
      case round =>
        obtain ⟨k, n, hk, rfl, rfl, hto, rfl⟩ := hrel
        have hnb : n ≤ 2100 * k := hto.2.2
        have HTo := Lib.hid hto
        clear hto
        by_cases hlt : k < fs.length
        · obtain ⟨⟨S, q⟩, hx⟩ : ∃ x, fs[k]? = some x := ⟨fs[k], List.getElem?_eq_getElem hlt⟩
          have c0 := (HC.out k _ hx).1
          simp only at c0
          have HX := Lib.hid hx
          obtain ⟨t, ht⟩ : ∃ t : ByteArray, t = ⟨S.toArray⟩ := ⟨_, rfl⟩
          have HT : Hid (t.size = S.length) := by rw [ht]; first | rfl | (rw [← ba_len]; rfl)
          rw [← ht] at c0
          have el : decide (k < fs.length) = true := by simpa using hlt
          clear hx ht
          by_cases h2 : 2100 < t.size
          · have HF := Lib.hid (far_one HX.out (by rw [← HT.out]; exact h2))
            go_wp2
            go_ret
            rw [HF.out]
            exact ⟨rfl, rfl⟩
          · have e2 : decide ((2100 : Int) < (t.size : Int)) = false := decide_eq_false (by omega)
            have HN := Lib.hid (HTo.out.next HX.out (by have := HT.out; show S.length ≤ _; omega))
            have hts : t.size ≤ 2100 := by omega
            clear h2
            go_wp2
            go_roundw
            case rel => exact ⟨k + 1, n + S.length, by omega, by go_num, by have := HT.out; rw [← this]; go_num, HN.out, by first | rfl | trivial⟩
            case measure => simp [intOf]; omega
        · have el : decide (k < fs.length) = false := by simpa using hlt
          have HF : Hid (farB fs = decide (12000 < n)) := by
            obtain ⟨h1, h2, _⟩ := HTo.out
            rw [List.take_of_length_le (by omega)] at h1 h2
            rw [Hid, far_sum hn70 h1, h2]
          go_wp2
          go_ret
          rw [HF.out]
          refine ⟨retB ?_, rfl⟩
          simp <;> omega
end Go.Proofs.YtabopillicdjaaaGreatDoor

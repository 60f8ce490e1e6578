/- The examples of chapter 28 in plain Lean. -/
import Derived.Test.YtaojogaakhidhaaDoorOpParP
namespace Go.Proofs.YtaojogaakhidhaaDoor
namespace Sc
theorem shA : parE [97, 108, 108, 111, 99, 32, 48, 32, 50, 32, 49] = 0 ∧ parC [97, 108, 108, 111, 99, 32, 48, 32, 50, 32, 49] = ⟨1, 0, 0, 0, 2, 1, 0⟩ := ⟨by decide +kernel, by kernel_rfl⟩
theorem shB : parE [119, 114, 105, 116, 101, 32, 49, 32, 48, 32, 102, 102] = 0 ∧ parC [119, 114, 105, 116, 101, 32, 49, 32, 48, 32, 102, 102] = ⟨5, 1, 0, 0, 0, 0, 255⟩ := ⟨by decide +kernel, by kernel_rfl⟩
theorem shC : parE [115, 116, 111, 114, 101, 32, 49, 32, 48, 32, 45, 49] = 0 ∧ parC [115, 116, 111, 114, 101, 32, 49, 32, 48, 32, 45, 49] = ⟨3, 1, -1, 0, 0, 0, 0⟩ := ⟨by decide +kernel, by kernel_rfl⟩
theorem shD : parE [119, 114, 105, 116, 101, 32, 49, 32, 48, 32, 48, 102] = 6 ∧ parC [119, 114, 105, 116, 101, 32, 49, 32, 48, 32, 48, 102] = ⟨0, 0, 0, 0, 0, 0, 0⟩ := ⟨by decide +kernel, by kernel_rfl⟩
theorem knA : parE [114, 101, 97, 100, 32, 49] = 6 ∧ parC [114, 101, 97, 100, 32, 49] = ⟨0, 0, 0, 0, 0, 0, 0⟩ := ⟨by decide +kernel, by kernel_rfl⟩
theorem knB : parE [114, 101, 97, 100, 32, 49, 32, 48, 32, 48] = 6 ∧ parC [114, 101, 97, 100, 32, 49, 32, 48, 32, 48] = ⟨0, 0, 0, 0, 0, 0, 0⟩ := ⟨by decide +kernel, by kernel_rfl⟩
theorem knC : parE [108, 111, 97, 100, 32, 49, 32, 48, 32, 49, 48, 48, 48, 48, 48, 48, 48, 48, 49] = 7 ∧ parC [108, 111, 97, 100, 32, 49, 32, 48, 32, 49, 48, 48, 48, 48, 48, 48, 48, 48, 49] = ⟨0, 0, 0, 0, 0, 0, 0⟩ := ⟨by decide +kernel, by kernel_rfl⟩
theorem knD : parE [119, 114, 105, 116, 101, 32, 49, 32, 48, 32, 49, 49, 49, 49, 49, 49, 49, 49, 49, 49, 49, 49, 49, 49, 49, 49, 49] = 7 ∧ parC [119, 114, 105, 116, 101, 32, 49, 32, 48, 32, 49, 49, 49, 49, 49, 49, 49, 49, 49, 49, 49, 49, 49, 49, 49, 49, 49] = ⟨0, 0, 0, 0, 0, 0, 0⟩ := ⟨by decide +kernel, by kernel_rfl⟩
theorem shE : chkA ⟨10, 0, 0, 0, 0, 0, 0⟩ ⟨0, false, 513⟩ = 0 ∧ ansS ⟨10, 0, 0, 0, 0, 0, 0⟩ ⟨0, false, 513⟩ = [50, 32, 49] := ⟨by decide +kernel, by decide +kernel⟩
theorem knE : chkA ⟨8, 0, 1, 0, 0, 0, 0⟩ ⟨0, true, 0⟩ = 0 ∧ ansS ⟨8, 0, 1, 0, 0, 0, 0⟩ ⟨0, true, 0⟩ = [121, 101, 115] := ⟨by decide +kernel, by decide +kernel⟩
theorem knF : chkA ⟨1, 0, 0, 0, 1, 1, 0⟩ ⟨5, false, 0⟩ = 0 ∧ ansS ⟨1, 0, 0, 0, 1, 1, 0⟩ ⟨5, false, 0⟩ = [101, 114, 114, 111, 114, 32, 53] := ⟨by decide +kernel, by decide +kernel⟩
theorem shF : paE ⟨4, 0, 0, 0, 0, 0, 0⟩ [102, 102] = 0 ∧ paA ⟨4, 0, 0, 0, 0, 0, 0⟩ [102, 102] = ⟨0, false, 255⟩ := ⟨by decide +kernel, by kernel_rfl⟩
theorem shG : paE ⟨1, 0, 0, 0, 2, 1, 0⟩ [121, 101, 115] = 6 ∧ paA ⟨1, 0, 0, 0, 2, 1, 0⟩ [121, 101, 115] = ⟨0, false, 0⟩ := ⟨by decide +kernel, by kernel_rfl⟩
end Sc
end Go.Proofs.YtaojogaakhidhaaDoor

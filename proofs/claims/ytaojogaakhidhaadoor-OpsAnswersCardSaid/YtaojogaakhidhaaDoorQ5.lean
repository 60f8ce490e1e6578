/- The law OpsBack, walked. The reference of chapter 28: Print. -/
import Derived.Test.YtaojogaakhidhaaDoorOpShn
import Derived.Deep.DeepCutAuto
import Derived.Test.YtaojogaakhidhaaDoorOpRChk
namespace Go.Proofs.YtaojogaakhidhaaDoor
open Go.RowKit
open Sc (OC OA chkE chkA WfA WfC parE parC paE paA parA ansS ansT printS lineT)

/-- The boxes of an operation and of an answer, at every world of the call. -/
structure BK (w : World) (c : OC) (a : OA) (W : World) : Prop where
  ow : Ow w W
  box : Bx w.heap.size (ocells c) 24 W
  abox : Bx (w.heap.size + 1) (acells a) 27 W
theorem BK.start (w : World) (c : OC) (a : OA) : BK w c a ((w.alloc (.cells (ocells c) 24)).alloc (.cells (acells a) 27)) :=
  ⟨((Ow.refl _).alloc _).alloc _, (Bx.new w _ _).alloc _, by simpa using (Bx.new (w.alloc (.cells (ocells c) 24)) (acells a) 27)⟩
theorem BK.then {w : World} {c : OC} {a : OA} {W W' : World} (h : BK w c a W) (hb : Ow W W') : BK w c a W' := ⟨Ow.then h.ow hb, h.box.then hb, h.abox.then hb⟩
theorem BK.alloc {w : World} {c : OC} {a : OA} {W : World} (h : BK w c a W) (o : Obj) : BK w c a (W.alloc o) := h.then ((Ow.refl _).alloc _)
theorem prs_ok {c : OC} (h : chkE c = 0) : printS c = lineT c := by unfold printS; rw [if_pos h]
theorem ans_ok' {c : OC} {a : OA} (h : chkA c a = 0) : ansS c a = ansT c a := by unfold ansS; rw [if_pos h]
theorem prs_len {c : OC} (hw : WfC c) : (printS c).length ≤ 60 := by
  unfold printS; split
  · rename_i h; rw [← Sc.prT_all (Nat.le_refl _)]; exact Sc.prT_len hw h _
  · simp
theorem ans_len {c : OC} {a : OA} (ha : WfA a) : (ansS c a).length ≤ 60 := by
  unfold ansS; split
  · rename_i h
    obtain ⟨_, h2, h3, h4⟩ := Sc.chkA_parts h
    obtain ⟨_, _, b3⟩ := Sc.badA_parts h4
    unfold Sc.ansT
    have hi : ∀ n : Int, -1000000000 ≤ n → n ≤ 1000000000 → (Lib.itoa n).length ≤ 11 := fun n h1 h2 => Sc.itoa_short (by simp only [Sc.inR, decide_eq_true_eq]; exact ⟨h1, h2⟩)
    split
    · have := hi a.e (by omega) (by omega)
      simp [Sc.errT]; omega
    · split
      · split <;> simp [Sc.yesT, Sc.noT]
      · split
        · have := Sc.hexL_len 15 a.v.toNat (by have := ha.2; have h16 : (16 : Nat) ^ (15 + 1) = 18446744073709551616 := by decide
                                               omega)
          omega
        · split
          · rename_i h10
            have := b3 h10
            have h5 := ha.1
            have e1 := hi (a.v / 256) (by omega) (by omega)
            have e2 := hi (a.v % 256) (by omega) (by omega)
            simp; omega
          · simp [Sc.okT]
  · simp
end Go.Proofs.YtaojogaakhidhaaDoor
namespace Go.Proofs.YtaojogaakhidhaaDoor
open Go.RowKit
open Sc (OC chkE kf kw num inR WfC printS lineT prT fieldS hexL)

theorem rhex_at (v : Nat) (hv : v < 18446744073709551616) (u : ByteArray) (hu : u.data.toList = hexL v) (w : World) : Calls Tryd.prog 16 #[.int .u64 v] w fun e w' => e = .returned (.string u) ∧ Ow w w' := rhex_any (v + 1) v u w (by omega) hv hu
theorem rdig_at (n : Int) (u : ByteArray) (h : u.data.toList = Lib.itoa n) (w : World) (he : Ends n n) : Calls Tryd.prog 15 #[.int .i64 n] w fun e w' => e = .returned (.string u) ∧ Ow w w' := rdigits_any (n.natAbs + 1) n u w (by omega) he h
end Go.Proofs.YtaojogaakhidhaaDoor

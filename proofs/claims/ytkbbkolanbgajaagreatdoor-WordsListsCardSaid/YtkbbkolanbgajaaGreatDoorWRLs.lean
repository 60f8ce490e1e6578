/- The reference of chapter 1: List. -/
import Derived.Test.YtkbbkolanbgajaaGreatDoorWLNam
import Derived.Test.YtkbbkolanbgajaaGreatDoorWArg
namespace Go.Proofs.YtkbbkolanbgajaaGreatDoor
open Go.RowKit
open Wd (restT listT ascB outB listE listS)

theorem list_nil : listE [] = 0 ∧ listS [] = [45] := ⟨rfl, rfl⟩
theorem list_out {l : List Int} (h500 : ¬ 500 < l.length) {k : Nat} {x : Int} (hx : l[k]? = some x) (ho : x < 0 ∨ 1000000000 < x) : listS l = [] ∧ listE l = 7 := by
  have : listE l = 7 := by unfold listE; rw [if_neg h500, if_pos (out_any hx ho)]
  exact ⟨by unfold listS; rw [this]; rfl, this⟩
theorem list_form {l : List Int} (h500 : ¬ 500 < l.length) (hin : inTo l l.length) (h : ascB l = false) : listS l = [] ∧ listE l = 6 := by
  have : listE l = 6 := by unfold listE; rw [if_neg h500, if_neg (by rw [inTo_all hin]; simp), if_pos h]
  exact ⟨by unfold listS; rw [this]; rfl, this⟩
theorem list_good {l : List Int} (h500 : ¬ 500 < l.length) (hin : inTo l l.length) (h : ascB l = true) : listE l = 0 ∧ listS l = listT l := by
  have : listE l = 0 := by unfold listE; rw [if_neg h500, if_neg (by rw [inTo_all hin]; simp), if_neg (by rw [h]; simp)]
  exact ⟨this, by unfold listS; rw [if_pos this]⟩
theorem inTo_next {l : List Int} {k : Nat} {x : Int} (h : inTo l k) (hx : l[k]? = some x) (h0 : 0 ≤ x) (h1 : x ≤ 1000000000) : inTo l (k + 1) := fun j y hj hy => by
  by_cases hjk : j < k
  · exact h j y hjk hy
  · obtain rfl : j = k := by omega
    rw [hx] at hy; cases hy; omega
theorem not_asc_at {l : List Int} {k : Nat} {p x : Int} (hp : l[k]? = some p) (hx : l[k + 1]? = some x) (h : x ≤ p) : ascB l = false := by
  cases ha : ascB l with
  | false => rfl
  | true =>
    have := (Wd.asc_iff l).1 ha k p x hp hx
    omega
set_option maxRecDepth 100000 in
set_option maxHeartbeats 8000000 in
theorem rList_any (v : Value) (l : List Int) (w : World) (hi : IntsA w v l) (hlen : l.length ≤ 100000) :
    Calls Tryz.prog 25 #[v] w (LPost l w) := by
  rcases hi with ⟨rfl, a, cap, rfl⟩ | ⟨hne, g, off, cap, rfl, hg, hc⟩
  · clear hlen
    go_enter Tryz.func25, Tryz.ntmps25
    go_wp2
    go_loopw [4] (fun i wr => i = .int .i64 0 ∧ w = wr) (fun _ _ => 0)
    case atStart => exact ⟨rfl, rfl⟩
    case round =>
      obtain ⟨rfl, rfl⟩ := hrel
      go_wp2
      go_loopw [5] (fun i wr => i = .int .i64 1 ∧ w = wr) (fun _ _ => 0)
      case atStart => exact ⟨rfl, rfl⟩
      case round =>
        obtain ⟨rfl, rfl⟩ := hrel
        go_wp2
        go_ret2
        exact ⟨rfl, Below.refl _ _⟩
  · by_cases h500 : 500 < l.length
    · have HF : Hid (listS l = [] ∧ listE l = 3) := by
        have : listE l = 3 := by unfold listE; rw [if_pos h500]
        exact ⟨by unfold listS; rw [this]; rfl, this⟩
      go_enter Tryz.func25, Tryz.ntmps25
      go_wp2
      go_ret2
      unfold LPost
      rw [HF.out.1, HF.out.2]
      exact ⟨rfl, Below.refl _ _⟩
    · have HNe := Lib.hid hne
      have HC := Lib.hid hc
      have H500 := Lib.hid h500
      have h5 : l.length ≤ 500 := by omega
      have hl0 : 0 < l.length := List.length_pos_iff.2 hne
      have el0 : ((l.length : Int) == 0) = false := by rw [beq_eq_false_iff_ne]; omega
      have e500 : decide (500 < l.length) = false := by simpa using h500
      clear hne hc hlen h500
      go_enter Tryz.func25, Tryz.ntmps25
      go_wp2
      go_loopw [4] (fun i wr => ∃ k : Nat, k ≤ l.length ∧ i = .int .i64 k ∧ inTo l k ∧ w = wr) (fun i _ => l.length - (intOf i).toNat)
      case atStart => exact ⟨0, by omega, rfl, fun j x hj => absurd hj (Nat.not_lt_zero _), rfl⟩
      case round =>
        obtain ⟨k, hk, rfl, hin, rfl⟩ := hrel
        have HIn := Lib.hid hin
        clear hin
        by_cases hlt : k < l.length
        · obtain ⟨x, hx⟩ : ∃ x, l[k]? = some x := ⟨l[k], List.getElem?_eq_getElem hlt⟩
          have HX := Lib.hid hx
          have ck := HC.out k x hx
          have el : decide (k < l.length) = true := by simpa using hlt
          clear hx
          by_cases ho : x < 0
          · have HF := Lib.hid (list_out H500.out HX.out (.inl ho))
            go_wp2
            go_ret2
            unfold LPost
            rw [HF.out.1, HF.out.2]
            exact ⟨rfl, Below.refl _ _⟩
          · by_cases ho2 : 1000000000 < x
            · have HF := Lib.hid (list_out H500.out HX.out (.inr ho2))
              go_wp2
              go_ret2
              unfold LPost
              rw [HF.out.1, HF.out.2]
              exact ⟨rfl, Below.refl _ _⟩
            · have HN := Lib.hid (inTo_next HIn.out HX.out (by omega) (by omega))
              go_wp2
              go_roundw
              case rel => exact ⟨k + 1, by omega, by go_num, HN.out, by first | rfl | trivial⟩
              case measure => simp [intOf]; omega
        · have el : decide (k < l.length) = false := by simpa using hlt
          obtain rfl : k = l.length := by omega
          clear hk hlt
          go_wp2
          go_loopw [5] (fun i wr => ∃ k : Nat, k ≤ l.length ∧ 1 ≤ k ∧ i = .int .i64 k ∧ ascTo l k ∧ Ow w wr) (fun i _ => l.length - (intOf i).toNat)
          case atStart => exact ⟨1, by omega, by omega, rfl, fun j a b hj => absurd hj (by omega), Ow.refl _⟩
          case round =>
            obtain ⟨k, hk, hk1, rfl, hasc, hb⟩ := hrel
            have HAs := Lib.hid hasc
            have HB := Lib.hid hb
            clear hasc hb
            by_cases hlt : k < l.length
            · obtain ⟨x, hx⟩ : ∃ x, l[k]? = some x := ⟨l[k], List.getElem?_eq_getElem hlt⟩
              obtain ⟨p, hp⟩ : ∃ p, l[k - 1]? = some p := ⟨l[k - 1], List.getElem?_eq_getElem (by omega)⟩
              have HX := Lib.hid hx
              have HP := Lib.hid hp
              have ck := (HB.out.cell (p := ⟨g, off + k, none⟩) hg).trans (HC.out k x hx)
              have cp := (HB.out.cell (p := ⟨g, off + (k - 1), none⟩) hg).trans (HC.out (k - 1) p hp)
              have el2 : decide (k < l.length) = true := by simpa using hlt
              have e1 : IntKind.i64.wrap ((k : Int) - 1) = (k : Int) - 1 := IntWalk.i64_in _ (by omega)
              have e2 : ((k : Int) - 1).toNat = k - 1 := by omega
              have e3 : (0 : Int) ≤ (k : Int) - 1 := by omega
              have e4 : (k : Int) - 1 < (l.length : Int) := by omega
              have e5 : (k : Int) < (l.length : Int) := by omega
              have e6 : (1 : Int) ≤ (k : Int) := by omega
              clear hx hp
              by_cases hxp : x ≤ p
              · have HF := Lib.hid (list_form H500.out HIn.out (not_asc_at (k := k - 1) HP.out (by rw [show k - 1 + 1 = k by omega]; exact HX.out) hxp))
                go_wp2_with fail
                go_quiet (fail)
                go_wp2
                go_ret2
                unfold LPost
                rw [HF.out.1, HF.out.2]
                exact ⟨rfl, HB.out.drewN _⟩
              · have HN := Lib.hid ((ascTo_next HAs.out HP.out HX.out (by omega)).2 (by omega))
                have exp2 : decide (x ≤ p) = false := decide_eq_false hxp
                clear hxp
                go_wp2_with fail
                go_quiet (fail)
                go_wp2
                go_roundw
                case rel => exact ⟨k + 1, by omega, by omega, by go_num, HN.out, HB.out.drewN _⟩
                case measure => simp [intOf]; omega
            · have el2 : decide (k < l.length) = false := by simpa using hlt
              obtain rfl : k = l.length := by omega
              have HAll : Hid (ascB l = true) := (ascTo_all l).1 HAs.out
              have HGd := Lib.hid (list_good H500.out HIn.out HAll.out)
              have HPt : Hid (Part l [] 0) := rfl
              clear hlt hk
              go_wp2
              go_loopw [6, 7, 8] (fun o i _ wr => ∃ (k : Nat) (bs : List UInt8) (u : ByteArray), k ≤ l.length ∧ i = .int .i64 k ∧ o = .string u ∧ u.data.toList = bs ∧ bs.length ≤ 50 * k ∧ Part l bs k ∧ Ow w wr) (fun _ i _ _ => l.length - (intOf i).toNat)
              case atStart => exact ⟨0, [], ⟨#[]⟩, by omega, rfl, rfl, rfl, by simp, HPt.out, HB.out⟩
              case round =>
                obtain ⟨k, bs, u, hk, rfl, rfl, hu, hbl, hpt, hb⟩ := hrel
                have HP := Lib.hid hpt
                have HB1 := Lib.hid hb
                have hus : u.size = bs.length := by rw [← ba_len, hu]
                have husz : u.size ≤ 25000 := by omega
                have HUs := Lib.hid hus
                have HU := Lib.hid hu
                have HUl := Lib.hid hbl
                clear hpt hb hu hus hbl HPt
                by_cases hlt : k < l.length
                · obtain ⟨a, ha⟩ : ∃ a, l[k]? = some a := ⟨l[k], List.getElem?_eq_getElem hlt⟩
                  have HA := Lib.hid ha
                  obtain ⟨ha0, ha1⟩ := HIn.out k a hlt ha
                  have el3 : decide (k < l.length) = true := by simpa using hlt
                  have HEa : Hid (Ends a a) := ⟨by omega, by omega⟩
                  obtain ⟨ua, hua⟩ : ∃ t : ByteArray, t.data.toList = Lib.itoa a := ⟨⟨(Lib.itoa a).toArray⟩, rfl⟩
                  have huas : ua.size ≤ 21 := by rw [← ba_len, hua]; exact itoa_le HEa.out
                  have HUa := Lib.hid hua
                  have HR0 : Hid (∀ t, k ≤ t → t ≤ k → l[t]? = some (a + ((t - k : Nat) : Int))) := fun t h1 h2 => by
                    obtain rfl : t = k := by omega
                    rw [HA.out]; simp
                  clear ha hua
                  go_wp2
                  go_loopw [8] (fun i w2 => ∃ j : Nat, k ≤ j ∧ j < l.length ∧ i = .int .i64 j ∧ (∀ t, k ≤ t → t ≤ j → l[t]? = some (a + ((t - k : Nat) : Int))) ∧ Ow w w2) (fun i _ => l.length - (intOf i).toNat)
                  case atStart => exact ⟨k, by omega, by omega, rfl, HR0.out, HB1.out⟩
                  case round =>
                    obtain ⟨j, hj1, hj2, rfl, hrun, hb2⟩ := hrel
                    have HRn := Lib.hid hrun
                    have HB2 := Lib.hid hb2
                    clear hrun hb2 HR0
                    obtain ⟨y, hy⟩ : ∃ y, a + ((j - k : Nat) : Int) = y := ⟨_, rfl⟩
                    have HY := Lib.hid hy.symm
                    have HJ : Hid (l[j]? = some y) := by rw [Hid, HRn.out j hj1 (Nat.le_refl _), hy]
                    clear hy
                    have cj := (HB2.out.cell (p := ⟨g, off + j, none⟩) hg).trans (HC.out j y HJ.out)
                    obtain ⟨y0, y1⟩ := HIn.out j y hj2 HJ.out
                    have HEy : Hid (Ends y y) := ⟨by omega, by omega⟩
                    obtain ⟨uy, huy⟩ : ∃ t : ByteArray, t.data.toList = Lib.itoa y := ⟨⟨(Lib.itoa y).toArray⟩, rfl⟩
                    have huys : uy.size ≤ 21 := by rw [← ba_len, huy]; exact itoa_le HEy.out
                    have HUy := Lib.hid huy
                    have q1 : IntKind.i64.wrap ((j : Int) + 1) = (j : Int) + 1 := IntWalk.i64_in _ (by omega)
                    have q2 : ((j : Int) + 1).toNat = j + 1 := by omega
                    have q3 : (0 : Int) ≤ (j : Int) + 1 := by omega
                    have q4 : IntKind.i64.wrap (y + 1) = y + 1 := IntWalk.i64_in _ (by omega)
                    have q5 : (j : Int) < (l.length : Int) := by omega
                    clear huy
                    by_cases hjn : j + 1 < l.length
                    · obtain ⟨z, hz⟩ : ∃ z, l[j + 1]? = some z := ⟨l[j + 1], List.getElem?_eq_getElem hjn⟩
                      have HZ := Lib.hid hz
                      have cz := (HB2.out.cell (p := ⟨g, off + (j + 1), none⟩) hg).trans (HC.out (j + 1) z hz)
                      clear hz
                      have ejn : ((j : Int) + 1) < (l.length : Int) := by omega
                      by_cases hzy : z = y + 1
                      · have HZY := Lib.hid hzy
                        have ez : (z == y + 1) = true := by rw [beq_iff_eq]; exact hzy
                        clear hzy
                        go_wp2
                        go_quiet (fail)
                        go_wp2
                        go_roundw
                        case rel => exact ⟨j + 1, by omega, by omega, by go_num, fun t h1 h2 => by
                          by_cases htj : t ≤ j
                          · exact HRn.out t h1 htj
                          · obtain rfl : t = j + 1 := by omega
                            rw [HZ.out, HZY.out, HY.out]; congr 1; omega, HB2.out.drewN _⟩
                        case measure => simp [intOf]; omega
                      · have HPn : Hid (Part l ((if bs = [] then [] else bs ++ [44]) ++ Wd.runT a (a + ((j - k : Nat) : Int))) (j + 1)) := by
                          refine HP.out.step HA.out hj1 hj2 HRn.out ?_
                          rw [HZ.out, ← HY.out]; intro e; cases e; exact hzy rfl
                        have ez : (z == y + 1) = false := by rw [beq_eq_false_iff_ne]; exact hzy
                        clear hzy
                        go_wp2
                        go_quiet (fail)
                        clear ez cz ejn cj q1 q2 q3 q4
                        have HW3 : Hid (Ow w (wr.drewN nq)) := HB2.out.drewN nq
                        generalize wr.drewN nq = w3 at HW3 ⊢
                        have ca3 := (HW3.out.cell (p := ⟨g, off + k, none⟩) hg).trans (HC.out k a HA.out)
                        by_cases hbs : bs = []
                        · subst hbs
                          have ub : u.toList.isEmpty = true := ba_empty (by have := HUs.out; simpa using this)
                          have ub2 : (!u.toList.isEmpty) = false := by rw [ub]; rfl
                          by_cases hjk : j = k
                          · have hya : y = a := by have := HY.out; rw [hjk] at this; omega
                            have HPs : Hid (Part l ([] ++ Lib.itoa a) (j + 1)) := by
                              have := HPn.out
                              rw [← HY.out, hya] at this
                              unfold Hid; simpa [Wd.runT] using this
                            have hny : ¬ (k : Int) < (j : Int) := by omega
                            have hny2 : decide (k < j) = false := decide_eq_false (by omega)
                            clear hya hjk
                            go_wp2_with fail
                            (go_at_call 56; refine (rdig_is a ua HUa.out _ HEa.out).mono ?_; rintro e w4 ⟨rfl, hb4⟩)
                            have HW4 := Lib.hid (HW3.out.then hb4)
                            clear hb4
                            go_wp2_with fail
                            go_roundw
                            case rel => exact ⟨j + 1, [] ++ Lib.itoa a, _, by omega, by go_num, rfl, by simp [HU.out, HUa.out], by have := itoa_le HEa.out; have := HUl.out; simp; omega, HPs.out, HW4.out⟩
                            case measure => simp [intOf]; omega
                          · have hay : a < y := by have := HY.out; omega
                            have HPs : Hid (Part l ([] ++ Lib.itoa a ++ 45 :: Lib.itoa y) (j + 1)) := by
                              have := HPn.out
                              rw [← HY.out] at this
                              unfold Hid; simpa [Wd.runT, hay] using this
                            have hny : (k : Int) < (j : Int) := by omega
                            have hny2 : k < j := by omega
                            clear hjk hay
                            go_wp2_with fail
                            (go_at_call 56; refine (rdig_is a ua HUa.out _ HEa.out).mono ?_; rintro e w4 ⟨rfl, hb4⟩)
                            have HW4 := Lib.hid (HW3.out.then hb4)
                            clear hb4
                            have cj4 := (HW4.out.cell (p := ⟨g, off + j, none⟩) hg).trans (HC.out j y HJ.out)
                            go_wp2_with fail
                            (go_at_call 56; refine (rdig_is y uy HUy.out _ HEy.out).mono ?_; rintro e w5 ⟨rfl, hb5⟩)
                            have HW5 := Lib.hid (HW4.out.then hb5)
                            clear hb5
                            go_wp2_with fail
                            go_roundw
                            case rel => exact ⟨j + 1, [] ++ Lib.itoa a ++ 45 :: Lib.itoa y, _, by omega, by go_num, rfl, by simp [HU.out, HUa.out, HUy.out], by have := itoa_le HEa.out; have := itoa_le HEy.out; have := HUl.out; simp; omega, HPs.out, HW5.out⟩
                            case measure => simp [intOf]; omega
                        · have ub : u.toList.isEmpty = false := ba_full (by have := HUs.out; have := List.length_pos_iff.2 hbs; omega)
                          have ub2 : (!u.toList.isEmpty) = true := by rw [ub]; rfl
                          by_cases hjk : j = k
                          · have hya : y = a := by have := HY.out; rw [hjk] at this; omega
                            have HPs : Hid (Part l (bs ++ [44] ++ Lib.itoa a) (j + 1)) := by
                              have := HPn.out
                              rw [← HY.out, hya] at this
                              unfold Hid; simpa [Wd.runT, hbs] using this
                            have hny : ¬ (k : Int) < (j : Int) := by omega
                            have hny2 : decide (k < j) = false := decide_eq_false (by omega)
                            clear hya hjk hbs
                            go_wp2_with fail
                            (go_at_call 56; refine (rdig_is a ua HUa.out _ HEa.out).mono ?_; rintro e w4 ⟨rfl, hb4⟩)
                            have HW4 := Lib.hid (HW3.out.then hb4)
                            clear hb4
                            go_wp2_with fail
                            go_roundw
                            case rel => exact ⟨j + 1, bs ++ [44] ++ Lib.itoa a, _, by omega, by go_num, rfl, by simp [HU.out, HUa.out], by have := itoa_le HEa.out; have := HUl.out; simp; omega, HPs.out, HW4.out⟩
                            case measure => simp [intOf]; omega
                          · have hay : a < y := by have := HY.out; omega
                            have HPs : Hid (Part l (bs ++ [44] ++ Lib.itoa a ++ 45 :: Lib.itoa y) (j + 1)) := by
                              have := HPn.out
                              rw [← HY.out] at this
                              unfold Hid; simpa [Wd.runT, hay, hbs] using this
                            have hny : (k : Int) < (j : Int) := by omega
                            have hny2 : k < j := by omega
                            clear hjk hbs hay
                            go_wp2_with fail
                            (go_at_call 56; refine (rdig_is a ua HUa.out _ HEa.out).mono ?_; rintro e w4 ⟨rfl, hb4⟩)
                            have HW4 := Lib.hid (HW3.out.then hb4)
                            clear hb4
                            have cj4 := (HW4.out.cell (p := ⟨g, off + j, none⟩) hg).trans (HC.out j y HJ.out)
                            go_wp2_with fail
                            (go_at_call 56; refine (rdig_is y uy HUy.out _ HEy.out).mono ?_; rintro e w5 ⟨rfl, hb5⟩)
                            have HW5 := Lib.hid (HW4.out.then hb5)
                            clear hb5
                            go_wp2_with fail
                            go_roundw
                            case rel => exact ⟨j + 1, bs ++ [44] ++ Lib.itoa a ++ 45 :: Lib.itoa y, _, by omega, by go_num, rfl, by simp [HU.out, HUa.out, HUy.out], by have := itoa_le HEa.out; have := itoa_le HEy.out; have := HUl.out; simp; omega, HPs.out, HW5.out⟩
                            case measure => simp [intOf]; omega
                    · have HPn : Hid (Part l ((if bs = [] then [] else bs ++ [44]) ++ Wd.runT a (a + ((j - k : Nat) : Int))) (j + 1)) := by
                        refine HP.out.step HA.out hj1 hj2 HRn.out ?_
                        rw [List.getElem?_eq_none (by omega)]; intro e; cases e
                      have ejn : decide ((j : Int) + 1 < (l.length : Int)) = false := decide_eq_false (by omega)
                      go_wp2
                      go_quiet (fail)
                      clear ejn cj q1 q2 q3 q4
                      have HW3 : Hid (Ow w (wr.drewN nq)) := HB2.out.drewN nq
                      generalize wr.drewN nq = w3 at HW3 ⊢
                      have ca3 := (HW3.out.cell (p := ⟨g, off + k, none⟩) hg).trans (HC.out k a HA.out)
                      by_cases hbs : bs = []
                      · subst hbs
                        have ub : u.toList.isEmpty = true := ba_empty (by have := HUs.out; simpa using this)
                        have ub2 : (!u.toList.isEmpty) = false := by rw [ub]; rfl
                        by_cases hjk : j = k
                        · have hya : y = a := by have := HY.out; rw [hjk] at this; omega
                          have HPs : Hid (Part l ([] ++ Lib.itoa a) (j + 1)) := by
                            have := HPn.out
                            rw [← HY.out, hya] at this
                            unfold Hid; simpa [Wd.runT] using this
                          have hny : ¬ (k : Int) < (j : Int) := by omega
                          have hny2 : decide (k < j) = false := decide_eq_false (by omega)
                          clear hya hjk
                          go_wp2_with fail
                          (go_at_call 56; refine (rdig_is a ua HUa.out _ HEa.out).mono ?_; rintro e w4 ⟨rfl, hb4⟩)
                          have HW4 := Lib.hid (HW3.out.then hb4)
                          clear hb4
                          go_wp2_with fail
                          go_roundw
                          case rel => exact ⟨j + 1, [] ++ Lib.itoa a, _, by omega, by go_num, rfl, by simp [HU.out, HUa.out], by have := itoa_le HEa.out; have := HUl.out; simp; omega, HPs.out, HW4.out⟩
                          case measure => simp [intOf]; omega
                        · have hay : a < y := by have := HY.out; omega
                          have HPs : Hid (Part l ([] ++ Lib.itoa a ++ 45 :: Lib.itoa y) (j + 1)) := by
                            have := HPn.out
                            rw [← HY.out] at this
                            unfold Hid; simpa [Wd.runT, hay] using this
                          have hny : (k : Int) < (j : Int) := by omega
                          have hny2 : k < j := by omega
                          clear hjk hay
                          go_wp2_with fail
                          (go_at_call 56; refine (rdig_is a ua HUa.out _ HEa.out).mono ?_; rintro e w4 ⟨rfl, hb4⟩)
                          have HW4 := Lib.hid (HW3.out.then hb4)
                          clear hb4
                          have cj4 := (HW4.out.cell (p := ⟨g, off + j, none⟩) hg).trans (HC.out j y HJ.out)
                          go_wp2_with fail
                          (go_at_call 56; refine (rdig_is y uy HUy.out _ HEy.out).mono ?_; rintro e w5 ⟨rfl, hb5⟩)
                          have HW5 := Lib.hid (HW4.out.then hb5)
                          clear hb5
                          go_wp2_with fail
                          go_roundw
                          case rel => exact ⟨j + 1, [] ++ Lib.itoa a ++ 45 :: Lib.itoa y, _, by omega, by go_num, rfl, by simp [HU.out, HUa.out, HUy.out], by have := itoa_le HEa.out; have := itoa_le HEy.out; have := HUl.out; simp; omega, HPs.out, HW5.out⟩
                          case measure => simp [intOf]; omega
                      · have ub : u.toList.isEmpty = false := ba_full (by have := HUs.out; have := List.length_pos_iff.2 hbs; omega)
                        have ub2 : (!u.toList.isEmpty) = true := by rw [ub]; rfl
                        by_cases hjk : j = k
                        · have hya : y = a := by have := HY.out; rw [hjk] at this; omega
                          have HPs : Hid (Part l (bs ++ [44] ++ Lib.itoa a) (j + 1)) := by
                            have := HPn.out
                            rw [← HY.out, hya] at this
                            unfold Hid; simpa [Wd.runT, hbs] using this
                          have hny : ¬ (k : Int) < (j : Int) := by omega
                          have hny2 : decide (k < j) = false := decide_eq_false (by omega)
                          clear hya hjk hbs
                          go_wp2_with fail
                          (go_at_call 56; refine (rdig_is a ua HUa.out _ HEa.out).mono ?_; rintro e w4 ⟨rfl, hb4⟩)
                          have HW4 := Lib.hid (HW3.out.then hb4)
                          clear hb4
                          go_wp2_with fail
                          go_roundw
                          case rel => exact ⟨j + 1, bs ++ [44] ++ Lib.itoa a, _, by omega, by go_num, rfl, by simp [HU.out, HUa.out], by have := itoa_le HEa.out; have := HUl.out; simp; omega, HPs.out, HW4.out⟩
                          case measure => simp [intOf]; omega
                        · have hay : a < y := by have := HY.out; omega
                          have HPs : Hid (Part l (bs ++ [44] ++ Lib.itoa a ++ 45 :: Lib.itoa y) (j + 1)) := by
                            have := HPn.out
                            rw [← HY.out] at this
                            unfold Hid; simpa [Wd.runT, hay, hbs] using this
                          have hny : (k : Int) < (j : Int) := by omega
                          have hny2 : k < j := by omega
                          clear hjk hbs hay
                          go_wp2_with fail
                          (go_at_call 56; refine (rdig_is a ua HUa.out _ HEa.out).mono ?_; rintro e w4 ⟨rfl, hb4⟩)
                          have HW4 := Lib.hid (HW3.out.then hb4)
                          clear hb4
                          have cj4 := (HW4.out.cell (p := ⟨g, off + j, none⟩) hg).trans (HC.out j y HJ.out)
                          go_wp2_with fail
                          (go_at_call 56; refine (rdig_is y uy HUy.out _ HEy.out).mono ?_; rintro e w5 ⟨rfl, hb5⟩)
                          have HW5 := Lib.hid (HW4.out.then hb5)
                          clear hb5
                          go_wp2_with fail
                          go_roundw
                          case rel => exact ⟨j + 1, bs ++ [44] ++ Lib.itoa a ++ 45 :: Lib.itoa y, _, by omega, by go_num, rfl, by simp [HU.out, HUa.out, HUy.out], by have := itoa_le HEa.out; have := itoa_le HEy.out; have := HUl.out; simp; omega, HPs.out, HW5.out⟩
                          case measure => simp [intOf]; omega
                · have el3 : decide (k < l.length) = false := by simpa using hlt
                  obtain rfl : k = l.length := by omega
                  have HLT : Hid (listT l = u.data.toList) := by rw [Hid, HU.out]; exact HP.out.done HNe.out
                  clear hlt hk
                  go_wp2
                  go_ret2
                  unfold LPost
                  rw [HGd.out.1, HGd.out.2, HLT.out, ba_mk]
                  exact ⟨rfl, HB1.out⟩
end Go.Proofs.YtkbbkolanbgajaaGreatDoor

/- Package words: the walk of List. -/
import Derived.Test.YtabopillicdjaaaGreatDoorWLst
namespace Go.Proofs.YtabopillicdjaaaGreatDoor
open Go.RowKit
open Wd (restT listT ascB outB listE listS)

def LForm (l : List Int) (k : Nat) (f : Int) : Prop := (f = 0 ∧ ascTo l k) ∨ (f = 6 ∧ ¬ ascTo l l.length)
theorem not_asc {l : List Int} {k : Nat} (h : ¬ ascTo l k) (hk : k ≤ l.length) : ¬ ascTo l l.length := fun h2 => h (fun j a b hj ha hb => h2 j a b (by omega) ha hb)

set_option maxRecDepth 100000 in
set_option maxHeartbeats 8000000 in
theorem List_any (g off cap : Nat) (l : List Int) (w : World) (hi : Ints w g off l) (hg : Gl w) (hlen : l.length ≤ 100000) :
    Calls Tryz.prog 12 #[.slice (some ⟨g, off, none⟩) l.length cap] w (LPost l w) := by
  have HI := Lib.hid hi
  have HG := Lib.hid hg
  clear hi hg
  by_cases h500 : 500 < l.length
  · have HF : Hid (listS l = [] ∧ listE l = 3) := by
      have : listE l = 3 := by unfold listE; rw [if_pos h500]
      exact ⟨by unfold listS; rw [this]; rfl, this⟩
    go_enter Tryz.func12, Tryz.ntmps12
    go_wp2
    go_ret2
    unfold LPost
    rw [HF.out.1, HF.out.2]
    exact ⟨rfl, Below.refl _ _⟩
  · have HL : Hid (LS w g off l [] (w.alloc (.cells #[.pointer none, .slice none 0 0] 66))) := ⟨Bd.new w, (Ow.refl w).alloc _, HI.out⟩
    go_enter Tryz.func12, Tryz.ntmps12
    go_wp2
    generalize w.alloc (.cells #[.pointer none, .slice none 0 0] 66) = W at HL ⊢
    go_loop [4, 6] (fun t i => ∃ (k : Nat) (f : Int), k ≤ l.length ∧ i = .int .i64 k ∧ t = .int .i64 f ∧ inTo l k ∧ LForm l k f) (fun _ i => l.length - (intOf i).toNat)
    case atStart => exact ⟨0, 0, by omega, rfl, rfl, fun j x hj => absurd hj (Nat.not_lt_zero _), .inl ⟨rfl, fun j a b hj => absurd hj (by omega)⟩⟩
    case round =>
      obtain ⟨k, f, hk, rfl, rfl, hin, hf⟩ := hrel
      have HIn := Lib.hid hin
      have HFo := Lib.hid hf
      clear hin hf
      by_cases hlt : k < l.length
      · obtain ⟨x, hx⟩ : ∃ x, l[k]? = some x := ⟨l[k], List.getElem?_eq_getElem hlt⟩
        have HX := Lib.hid hx
        have ck : W.cell? ⟨g, off + k, none⟩ = some (.int .i64 x) := HL.out.cell hx
        clear hx
        have el : decide (k < l.length) = true := by simpa using hlt
        by_cases ho : x < 0 ∨ 1000000000 < x
        · have HF : Hid (listS l = [] ∧ listE l = 7) := by
            have : listE l = 7 := by unfold listE; rw [if_neg h500, if_pos (out_any HX.out ho)]
            exact ⟨by unfold listS; rw [this]; rfl, this⟩
          rcases ho with ho | ho
          · go_wp2
            go_ret2
            unfold LPost
            rw [HF.out.1, HF.out.2]
            exact ⟨rfl, HL.out.low⟩
          · have hx0 : ¬ x < 0 := by omega
            go_wp2
            go_ret2
            unfold LPost
            rw [HF.out.1, HF.out.2]
            exact ⟨rfl, HL.out.low⟩
        · have hx0 : ¬ x < 0 := by omega
          have hx1 : ¬ 1000000000 < x := by omega
          have HN : Hid (inTo l (k + 1)) := fun j y hj hy => by
            by_cases hjk : j < k
            · exact HIn.out j y hjk hy
            · obtain rfl : j = k := by omega
              rw [HX.out] at hy; cases hy; omega
          clear ho
          by_cases hk0 : k = 0
          · subst hk0
            have ck0 : W.cell? ⟨g, off, none⟩ = some (.int .i64 x) := by simpa using ck
            have HF2 : Hid (LForm l (0 + 1) f) := by
              rcases HFo.out with ⟨h1, _⟩ | h1
              · exact .inl ⟨h1, fun j a b hj => absurd hj (by omega)⟩
              · exact .inr h1
            go_wp2
            go_round
            case rel => exact ⟨1, f, by omega, by go_num, rfl, HN.out, HF2.out⟩
            case measure => simp [intOf]; omega
          · obtain ⟨p, hp⟩ : ∃ p, l[k - 1]? = some p := ⟨l[k - 1], List.getElem?_eq_getElem (by omega)⟩
            have HP := Lib.hid hp
            have cp : W.cell? ⟨g, off + (k - 1), none⟩ = some (.int .i64 p) := HL.out.cell hp
            clear hp
            have hkp : 0 < k := by omega
            have hkp2 : (0 : Int) < (k : Int) := by omega
            have hk1 : (1 : Int) ≤ (k : Int) := by omega
            clear hk0
            by_cases hxp : x ≤ p
            · have HF2 : Hid (LForm l (k + 1) 6) := by
                have hno : ¬ ascTo l l.length := by
                  rcases HFo.out with ⟨_, h1⟩ | ⟨_, h1⟩
                  · refine not_asc (k := k + 1) ?_ (by omega)
                    rw [ascTo_next h1 HP.out HX.out hkp]; omega
                  · exact h1
                exact .inr ⟨rfl, hno⟩
              go_wp2
              go_round
              case rel => exact ⟨k + 1, 6, by omega, by go_num, rfl, HN.out, HF2.out⟩
              case measure => simp [intOf]; omega
            · have HF2 : Hid (LForm l (k + 1) f) := by
                rcases HFo.out with ⟨h0, h1⟩ | h1
                · exact .inl ⟨h0, (ascTo_next h1 HP.out HX.out hkp).2 (by omega)⟩
                · exact .inr h1
              go_wp2
              go_round
              case rel => exact ⟨k + 1, f, by omega, by go_num, rfl, HN.out, HF2.out⟩
              case measure => simp [intOf]; omega
      · have el : decide (k < l.length) = false := by simpa using hlt
        have hkl : k = l.length := by omega
        have HK := Lib.hid hkl
        have HIn2 : Hid (inTo l l.length) := by rw [Hid, ← hkl]; exact HIn.out
        have HFo2 : Hid ((f = 0 ∧ ascTo l l.length) ∨ (f = 6 ∧ ¬ ascTo l l.length)) := by
          rcases HFo.out with ⟨h1, h2⟩ | h1
          · exact .inl ⟨h1, by rw [← hkl]; exact h2⟩
          · exact .inr h1
        clear hkl HIn HFo
        by_cases hf0 : f = 0
        · subst hf0
          have HAs : Hid (ascTo l l.length) := by
            rcases HFo2.out with ⟨_, h⟩ | ⟨h, _⟩
            · exact h
            · cases h
          have HF : Hid (listE l = 0) := by
            unfold Hid listE
            rw [if_neg h500, if_neg (by rw [inTo_all HIn2.out]; simp), if_neg (by rw [(ascTo_all l).1 HAs.out]; simp)]
          clear HFo2
          go_wp2
          have HPt : Hid (Part l [] 0) := rfl
          have h500' : l.length ≤ 500 := by omega
          go_loopw [8] (fun i wr => ∃ (k : Nat) (bs : List UInt8), k ≤ l.length ∧ i = .int .i64 k ∧ bs.length ≤ k * 4000000000 ∧ Part l bs k ∧ LS w g off l bs wr) (fun i _ => l.length - (intOf i).toNat)
          case atStart => exact ⟨0, [], by omega, rfl, by simp, HPt.out, HL.out⟩
          case round =>
            obtain ⟨k, bs, hk, rfl, hbl, hpt, hls⟩ := hrel
            have HP := Lib.hid hpt
            have HS := Lib.hid hls
            clear hpt hls HL HPt
            by_cases hlt : k < l.length
            · obtain ⟨a, ha⟩ : ∃ a, l[k]? = some a := ⟨l[k], List.getElem?_eq_getElem hlt⟩
              have hin := HIn2.out k a hlt ha
              have HA := Lib.hid ha
              have ca : wr.cell? ⟨g, off + k, none⟩ = some (.int .i64 a) := HS.out.cell ha
              have el : decide (k < l.length) = true := by simpa using hlt
              obtain ⟨ha0, ha1⟩ := hin
              clear ha
              go_wp2
              obtain ⟨wo, rfl⟩ : ∃ wo : World, wo = wr := ⟨_, rfl⟩
              have HR0 : Hid (∀ t, k ≤ t → t ≤ k → l[t]? = some (a + ((t - k : Nat) : Int))) := fun t h1 h2 => by
                obtain rfl : t = k := by omega
                rw [HA.out]; simp
              clear ca
              go_loopw [8] (fun i w2 => ∃ j : Nat, k ≤ j ∧ j < l.length ∧ i = .int .i64 j ∧ (∀ t, k ≤ t → t ≤ j → l[t]? = some (a + ((t - k : Nat) : Int))) ∧ LS w g off l bs w2) (fun i _ => l.length - (intOf i).toNat)
              case atStart => exact ⟨k, by omega, by omega, rfl, HR0.out, HS.out⟩
              case round =>
                obtain ⟨j, hj1, hj2, rfl, hrun, hls2⟩ := hrel
                have HRn := Lib.hid hrun
                have H2 := Lib.hid hls2
                clear hrun hls2 HR0 HS
                obtain ⟨y, hy⟩ : ∃ y, a + ((j - k : Nat) : Int) = y := ⟨_, rfl⟩
                have HY := Lib.hid hy.symm
                have HJ : Hid (l[j]? = some y) := by rw [Hid, HRn.out j hj1 (Nat.le_refl _), hy]
                clear hy
                have cj : wr.cell? ⟨g, off + j, none⟩ = some (.int .i64 y) := H2.out.cell HJ.out
                obtain ⟨y0, y1⟩ := HIn2.out j y hj2 HJ.out
                have s1 := itoa_short ha0 ha1
                have s2 := itoa_short y0 y1
                have hEa : Hid (Ends a a) := ⟨by omega, by omega⟩
                have hEy : Hid (Ends y y) := ⟨by omega, by omega⟩
                by_cases hjn : j + 1 < l.length
                · obtain ⟨z, hz⟩ : ∃ z, l[j + 1]? = some z := ⟨l[j + 1], List.getElem?_eq_getElem hjn⟩
                  have HZ := Lib.hid hz
                  have cz : wr.cell? ⟨g, off + (j + 1), none⟩ = some (.int .i64 z) := H2.out.cell hz
                  clear hz
                  obtain ⟨z0, z1⟩ := HIn2.out (j + 1) z hjn HZ.out
                  have ejn : ((j : Int) + 1) < (l.length : Int) := by omega
                  by_cases hzy : z = y + 1
                  · have HZY := Lib.hid hzy
                    have ez : (z == y + 1) = true := by rw [beq_iff_eq]; exact hzy
                    clear hzy
                    go_wp2
                    go_quiet (fail)
                    go_wp2
                    go_roundw
                    case rel => exact ⟨j + 1, by omega, by omega, by go_num, fun t h1 h2 => by
                      by_cases htj : t ≤ j
                      · exact HRn.out t h1 htj
                      · obtain rfl : t = j + 1 := by omega
                        rw [HZ.out, HZY.out, HY.out]; congr 1; omega, H2.out.then ((Ow.refl _).drewN _)⟩
                    case measure => simp [intOf]; omega
                  · have HPn : Hid (Part l ((if bs = [] then [] else bs ++ [44]) ++ Wd.runT a (a + ((j - k : Nat) : Int))) (j + 1)) := by
                      refine HP.out.step HA.out hj1 hj2 HRn.out ?_
                      rw [HZ.out, ← HY.out]; intro e; cases e; exact hzy rfl
                    have ez : (z == y + 1) = false := by rw [beq_eq_false_iff_ne]; exact hzy
                    clear hzy
                    go_wp2
                    go_quiet (fail)
                    have H3 : Hid (LS w g off l bs (wr.drewN nq)) := H2.out.then ((Ow.refl _).drewN _)
                    clear ez cz ejn cj
                    by_cases hbs : bs = []
                    · subst hbs
                      by_cases hjk : j = k
                      · have hya : y = a := by have := HY.out; rw [hjk] at this; omega
                        have HPs : Hid (Part l ([] ++ Lib.itoa a) (j + 1)) := by
                          have := HPn.out
                          rw [← HY.out, hya] at this
                          unfold Hid; simpa [Wd.runT] using this
                        have hny : ¬ a < y := by omega
                        clear hya hjk
                        go_wp2_with fail
                        (go_at_call 29; refine (Bd.len _ _ _ H3.out.bd).mono ?_; rintro e w4 ⟨rfl, rfl⟩)
                        go_wp2_with fail
                        (go_at_call 32; refine (LS.itoa H3.out HG.out _ hEa.out).mono ?_; rintro e w6 ⟨rfl, h6⟩)
                        have H6 := Lib.hid h6
                        clear h6
                        go_wp2_with fail
                        (go_at_call 31; refine (LS.str H6.out _ (Lib.itoa a) (by simp) (by first | (simp; done) | (simp; omega)) (by omega)).mono ?_; rintro e w7 ⟨⟨v7, rfl⟩, h7⟩)
                        have H7 := Lib.hid h7
                        have c7 : w7.cell? ⟨g, off + j, none⟩ = some (.int .i64 y) := h7.cell HJ.out
                        clear h7
                        go_wp2_with fail
                        go_roundw
                        case rel => exact ⟨j + 1, ([] ++ Lib.itoa a), by omega, by go_num, by simp; omega, HPs.out, H7.out⟩
                        case measure => simp [intOf]; omega
                      · have hay : a < y := by have := HY.out; omega
                        have HPs : Hid (Part l ([] ++ Lib.itoa a ++ 45 :: Lib.itoa y) (j + 1)) := by
                          have := HPn.out
                          rw [← HY.out] at this
                          unfold Hid; simpa [Wd.runT, hay] using this
                        clear hjk
                        go_wp2_with fail
                        (go_at_call 29; refine (Bd.len _ _ _ H3.out.bd).mono ?_; rintro e w4 ⟨rfl, rfl⟩)
                        go_wp2_with fail
                        (go_at_call 32; refine (LS.itoa H3.out HG.out _ hEa.out).mono ?_; rintro e w6 ⟨rfl, h6⟩)
                        have H6 := Lib.hid h6
                        clear h6
                        go_wp2_with fail
                        (go_at_call 31; refine (LS.str H6.out _ (Lib.itoa a) (by simp) (by first | (simp; done) | (simp; omega)) (by omega)).mono ?_; rintro e w7 ⟨⟨v7, rfl⟩, h7⟩)
                        have H7 := Lib.hid h7
                        have c7 : w7.cell? ⟨g, off + j, none⟩ = some (.int .i64 y) := h7.cell HJ.out
                        clear h7
                        go_wp2_with fail
                        (go_at_call 32; refine (LS.itoa H7.out HG.out _ hEy.out).mono ?_; rintro e w8 ⟨rfl, h8⟩)
                        have H8 := Lib.hid h8
                        clear h8
                        go_wp2_with fail
                        (go_at_call 31; refine (LS.str H8.out _ (45 :: Lib.itoa y) (by simp) (by first | (simp; done) | (simp; omega)) (by simp; omega)).mono ?_; rintro e w9 ⟨⟨v9, rfl⟩, h9⟩)
                        have H9 := Lib.hid h9
                        clear h9
                        go_wp2_with fail
                        go_roundw
                        case rel => exact ⟨j + 1, ([] ++ Lib.itoa a ++ 45 :: Lib.itoa y), by omega, by go_num, by simp; omega, HPs.out, H9.out⟩
                        case measure => simp [intOf]; omega
                    · have hbpos : 0 < bs.length := List.length_pos_iff.2 hbs
                      have hbpos2 : (0 : Int) < (bs.length : Int) := by omega
                      by_cases hjk : j = k
                      · have hya : y = a := by have := HY.out; rw [hjk] at this; omega
                        have HPs : Hid (Part l (bs ++ [44] ++ Lib.itoa a) (j + 1)) := by
                          have := HPn.out
                          rw [← HY.out, hya] at this
                          unfold Hid; simpa [Wd.runT, hbs] using this
                        have hny : ¬ a < y := by omega
                        clear hya hjk hbs
                        go_wp2_with fail
                        (go_at_call 29; refine (Bd.len _ _ _ H3.out.bd).mono ?_; rintro e w4 ⟨rfl, rfl⟩)
                        go_wp2_with fail
                        (go_at_call 30; refine (LS.byte H3.out (by omega)).mono ?_; rintro e w5 ⟨rfl, h5⟩)
                        have H5 := Lib.hid h5
                        clear h5
                        go_wp2_with fail
                        (go_at_call 32; refine (LS.itoa H5.out HG.out _ hEa.out).mono ?_; rintro e w6 ⟨rfl, h6⟩)
                        have H6 := Lib.hid h6
                        clear h6
                        go_wp2_with fail
                        (go_at_call 31; refine (LS.str H6.out _ (Lib.itoa a) (by simp) (by first | (simp; done) | (simp; omega)) (by omega)).mono ?_; rintro e w7 ⟨⟨v7, rfl⟩, h7⟩)
                        have H7 := Lib.hid h7
                        have c7 : w7.cell? ⟨g, off + j, none⟩ = some (.int .i64 y) := h7.cell HJ.out
                        clear h7
                        go_wp2_with fail
                        go_roundw
                        case rel => exact ⟨j + 1, (bs ++ [44] ++ Lib.itoa a), by omega, by go_num, by simp; omega, HPs.out, H7.out⟩
                        case measure => simp [intOf]; omega
                      · have hay : a < y := by have := HY.out; omega
                        have HPs : Hid (Part l (bs ++ [44] ++ Lib.itoa a ++ 45 :: Lib.itoa y) (j + 1)) := by
                          have := HPn.out
                          rw [← HY.out] at this
                          unfold Hid; simpa [Wd.runT, hay, hbs] using this
                        clear hjk hbs
                        go_wp2_with fail
                        (go_at_call 29; refine (Bd.len _ _ _ H3.out.bd).mono ?_; rintro e w4 ⟨rfl, rfl⟩)
                        go_wp2_with fail
                        (go_at_call 30; refine (LS.byte H3.out (by omega)).mono ?_; rintro e w5 ⟨rfl, h5⟩)
                        have H5 := Lib.hid h5
                        clear h5
                        go_wp2_with fail
                        (go_at_call 32; refine (LS.itoa H5.out HG.out _ hEa.out).mono ?_; rintro e w6 ⟨rfl, h6⟩)
                        have H6 := Lib.hid h6
                        clear h6
                        go_wp2_with fail
                        (go_at_call 31; refine (LS.str H6.out _ (Lib.itoa a) (by simp) (by first | (simp; done) | (simp; omega)) (by omega)).mono ?_; rintro e w7 ⟨⟨v7, rfl⟩, h7⟩)
                        have H7 := Lib.hid h7
                        have c7 : w7.cell? ⟨g, off + j, none⟩ = some (.int .i64 y) := h7.cell HJ.out
                        clear h7
                        go_wp2_with fail
                        (go_at_call 32; refine (LS.itoa H7.out HG.out _ hEy.out).mono ?_; rintro e w8 ⟨rfl, h8⟩)
                        have H8 := Lib.hid h8
                        clear h8
                        go_wp2_with fail
                        (go_at_call 31; refine (LS.str H8.out _ (45 :: Lib.itoa y) (by simp) (by first | (simp; done) | (simp; omega)) (by simp; omega)).mono ?_; rintro e w9 ⟨⟨v9, rfl⟩, h9⟩)
                        have H9 := Lib.hid h9
                        clear h9
                        go_wp2_with fail
                        go_roundw
                        case rel => exact ⟨j + 1, (bs ++ [44] ++ Lib.itoa a ++ 45 :: Lib.itoa y), by omega, by go_num, by simp; omega, HPs.out, H9.out⟩
                        case measure => simp [intOf]; omega
                · have HPn : Hid (Part l ((if bs = [] then [] else bs ++ [44]) ++ Wd.runT a (a + ((j - k : Nat) : Int))) (j + 1)) := by
                    refine HP.out.step HA.out hj1 hj2 HRn.out ?_
                    rw [List.getElem?_eq_none (by omega)]; simp
                  have ejn : decide (((j : Int) + 1) < (l.length : Int)) = false := by rw [decide_eq_false_iff_not]; omega
                  clear hjn
                  go_wp2
                  go_quiet (fail)
                  have H3 : Hid (LS w g off l bs (wr.drewN nq)) := H2.out.then ((Ow.refl _).drewN _)
                  clear ejn cj
                  by_cases hbs : bs = []
                  · subst hbs
                    by_cases hjk : j = k
                    · have hya : y = a := by have := HY.out; rw [hjk] at this; omega
                      have HPs : Hid (Part l ([] ++ Lib.itoa a) (j + 1)) := by
                        have := HPn.out
                        rw [← HY.out, hya] at this
                        unfold Hid; simpa [Wd.runT] using this
                      have hny : ¬ a < y := by omega
                      clear hya hjk
                      go_wp2_with fail
                      (go_at_call 29; refine (Bd.len _ _ _ H3.out.bd).mono ?_; rintro e w4 ⟨rfl, rfl⟩)
                      go_wp2_with fail
                      (go_at_call 32; refine (LS.itoa H3.out HG.out _ hEa.out).mono ?_; rintro e w6 ⟨rfl, h6⟩)
                      have H6 := Lib.hid h6
                      clear h6
                      go_wp2_with fail
                      (go_at_call 31; refine (LS.str H6.out _ (Lib.itoa a) (by simp) (by first | (simp; done) | (simp; omega)) (by omega)).mono ?_; rintro e w7 ⟨⟨v7, rfl⟩, h7⟩)
                      have H7 := Lib.hid h7
                      have c7 : w7.cell? ⟨g, off + j, none⟩ = some (.int .i64 y) := h7.cell HJ.out
                      clear h7
                      go_wp2_with fail
                      go_roundw
                      case rel => exact ⟨j + 1, ([] ++ Lib.itoa a), by omega, by go_num, by simp; omega, HPs.out, H7.out⟩
                      case measure => simp [intOf]; omega
                    · have hay : a < y := by have := HY.out; omega
                      have HPs : Hid (Part l ([] ++ Lib.itoa a ++ 45 :: Lib.itoa y) (j + 1)) := by
                        have := HPn.out
                        rw [← HY.out] at this
                        unfold Hid; simpa [Wd.runT, hay] using this
                      clear hjk
                      go_wp2_with fail
                      (go_at_call 29; refine (Bd.len _ _ _ H3.out.bd).mono ?_; rintro e w4 ⟨rfl, rfl⟩)
                      go_wp2_with fail
                      (go_at_call 32; refine (LS.itoa H3.out HG.out _ hEa.out).mono ?_; rintro e w6 ⟨rfl, h6⟩)
                      have H6 := Lib.hid h6
                      clear h6
                      go_wp2_with fail
                      (go_at_call 31; refine (LS.str H6.out _ (Lib.itoa a) (by simp) (by first | (simp; done) | (simp; omega)) (by omega)).mono ?_; rintro e w7 ⟨⟨v7, rfl⟩, h7⟩)
                      have H7 := Lib.hid h7
                      have c7 : w7.cell? ⟨g, off + j, none⟩ = some (.int .i64 y) := h7.cell HJ.out
                      clear h7
                      go_wp2_with fail
                      (go_at_call 32; refine (LS.itoa H7.out HG.out _ hEy.out).mono ?_; rintro e w8 ⟨rfl, h8⟩)
                      have H8 := Lib.hid h8
                      clear h8
                      go_wp2_with fail
                      (go_at_call 31; refine (LS.str H8.out _ (45 :: Lib.itoa y) (by simp) (by first | (simp; done) | (simp; omega)) (by simp; omega)).mono ?_; rintro e w9 ⟨⟨v9, rfl⟩, h9⟩)
                      have H9 := Lib.hid h9
                      clear h9
                      go_wp2_with fail
                      go_roundw
                      case rel => exact ⟨j + 1, ([] ++ Lib.itoa a ++ 45 :: Lib.itoa y), by omega, by go_num, by simp; omega, HPs.out, H9.out⟩
                      case measure => simp [intOf]; omega
                  · have hbpos : 0 < bs.length := List.length_pos_iff.2 hbs
                    have hbpos2 : (0 : Int) < (bs.length : Int) := by omega
                    by_cases hjk : j = k
                    · have hya : y = a := by have := HY.out; rw [hjk] at this; omega
                      have HPs : Hid (Part l (bs ++ [44] ++ Lib.itoa a) (j + 1)) := by
                        have := HPn.out
                        rw [← HY.out, hya] at this
                        unfold Hid; simpa [Wd.runT, hbs] using this
                      have hny : ¬ a < y := by omega
                      clear hya hjk hbs
                      go_wp2_with fail
                      (go_at_call 29; refine (Bd.len _ _ _ H3.out.bd).mono ?_; rintro e w4 ⟨rfl, rfl⟩)
                      go_wp2_with fail
                      (go_at_call 30; refine (LS.byte H3.out (by omega)).mono ?_; rintro e w5 ⟨rfl, h5⟩)
                      have H5 := Lib.hid h5
                      clear h5
                      go_wp2_with fail
                      (go_at_call 32; refine (LS.itoa H5.out HG.out _ hEa.out).mono ?_; rintro e w6 ⟨rfl, h6⟩)
                      have H6 := Lib.hid h6
                      clear h6
                      go_wp2_with fail
                      (go_at_call 31; refine (LS.str H6.out _ (Lib.itoa a) (by simp) (by first | (simp; done) | (simp; omega)) (by omega)).mono ?_; rintro e w7 ⟨⟨v7, rfl⟩, h7⟩)
                      have H7 := Lib.hid h7
                      have c7 : w7.cell? ⟨g, off + j, none⟩ = some (.int .i64 y) := h7.cell HJ.out
                      clear h7
                      go_wp2_with fail
                      go_roundw
                      case rel => exact ⟨j + 1, (bs ++ [44] ++ Lib.itoa a), by omega, by go_num, by simp; omega, HPs.out, H7.out⟩
                      case measure => simp [intOf]; omega
                    · have hay : a < y := by have := HY.out; omega
                      have HPs : Hid (Part l (bs ++ [44] ++ Lib.itoa a ++ 45 :: Lib.itoa y) (j + 1)) := by
                        have := HPn.out
                        rw [← HY.out] at this
                        unfold Hid; simpa [Wd.runT, hay, hbs] using this
                      clear hjk hbs
                      go_wp2_with fail
                      (go_at_call 29; refine (Bd.len _ _ _ H3.out.bd).mono ?_; rintro e w4 ⟨rfl, rfl⟩)
                      go_wp2_with fail
                      (go_at_call 30; refine (LS.byte H3.out (by omega)).mono ?_; rintro e w5 ⟨rfl, h5⟩)
                      have H5 := Lib.hid h5
                      clear h5
                      go_wp2_with fail
                      (go_at_call 32; refine (LS.itoa H5.out HG.out _ hEa.out).mono ?_; rintro e w6 ⟨rfl, h6⟩)
                      have H6 := Lib.hid h6
                      clear h6
                      go_wp2_with fail
                      (go_at_call 31; refine (LS.str H6.out _ (Lib.itoa a) (by simp) (by first | (simp; done) | (simp; omega)) (by omega)).mono ?_; rintro e w7 ⟨⟨v7, rfl⟩, h7⟩)
                      have H7 := Lib.hid h7
                      have c7 : w7.cell? ⟨g, off + j, none⟩ = some (.int .i64 y) := h7.cell HJ.out
                      clear h7
                      go_wp2_with fail
                      (go_at_call 32; refine (LS.itoa H7.out HG.out _ hEy.out).mono ?_; rintro e w8 ⟨rfl, h8⟩)
                      have H8 := Lib.hid h8
                      clear h8
                      go_wp2_with fail
                      (go_at_call 31; refine (LS.str H8.out _ (45 :: Lib.itoa y) (by simp) (by first | (simp; done) | (simp; omega)) (by simp; omega)).mono ?_; rintro e w9 ⟨⟨v9, rfl⟩, h9⟩)
                      have H9 := Lib.hid h9
                      clear h9
                      go_wp2_with fail
                      go_roundw
                      case rel => exact ⟨j + 1, (bs ++ [44] ++ Lib.itoa a ++ 45 :: Lib.itoa y), by omega, by go_num, by simp; omega, HPs.out, H9.out⟩
                      case measure => simp [intOf]; omega
            · have hkl : k = l.length := by omega
              have el : decide (k < l.length) = false := by simpa using hlt
              by_cases hnil : l = []
              · have HF3 : Hid (listS l = [45]) := by unfold Hid listS; rw [HF.out, if_pos rfl, listT, if_pos hnil]
                have e0 : ((l.length : Int) == 0) = true := by rw [hnil]; rfl
                have HK2 := Lib.hid hkl
                clear hkl hnil
                go_wp2
                go_ret2
                unfold LPost
                rw [HF.out, HF3.out]
                exact ⟨rfl, HS.out.low⟩
              · have HF3 : Hid (listS l = bs) := by
                  unfold Hid listS
                  rw [HF.out, if_pos rfl]
                  have := HP.out
                  rw [hkl] at this
                  exact this.done hnil
                have e0 : ((l.length : Int) == 0) = false := by
                  rw [beq_eq_false_iff_ne]; intro e; apply hnil; exact List.length_eq_zero_iff.1 (by omega)
                have HK2 := Lib.hid hkl
                clear hkl hnil
                go_wp2_with (go_at_call 33; refine (Tryz.Builder_String_any _ _ bs _ HS.out.bd HS.out.low.size).mono ?_; rintro e w2 ⟨rfl, hb2⟩)
                go_ret2
                unfold LPost
                rw [HF.out, HF3.out]
                exact ⟨rfl, HS.out.low.trans hb2⟩
        · have hf6 : f = 6 := by
            rcases HFo2.out with ⟨h, _⟩ | ⟨h, _⟩
            · exact absurd h hf0
            · exact h
          subst hf6
          have HF : Hid (listS l = [] ∧ listE l = 6) := by
            have hno : ¬ ascTo l l.length := by
              rcases HFo2.out with ⟨h, _⟩ | ⟨_, h⟩
              · cases h
              · exact h
            have : listE l = 6 := by
              unfold listE
              rw [if_neg h500, if_neg (by rw [inTo_all HIn2.out]; simp), if_pos]
              cases h : ascB l with
              | false => rfl
              | true => exact absurd ((ascTo_all l).2 h) hno
            exact ⟨by unfold listS; rw [this]; rfl, this⟩
          clear hf0 HFo2
          go_wp2
          go_loopw [8] (fun i wr => i = .int .i64 0 ∧ wr = W) (fun _ _ => 0)
          case atStart => exact ⟨rfl, rfl⟩
          case round =>
            obtain ⟨rfl, rfl⟩ := hrel
            go_wp2
            all_goals
              go_ret2
              unfold LPost
              rw [HF.out.1, HF.out.2]
              exact ⟨rfl, HL.out.low⟩
end Go.Proofs.YtabopillicdjaaaGreatDoor

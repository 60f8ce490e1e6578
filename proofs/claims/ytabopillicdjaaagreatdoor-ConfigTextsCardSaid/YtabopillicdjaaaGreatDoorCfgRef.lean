/- The reference of chapter 2: words, Print, Parse (printed by gen/cfgref.py). -/
import Derived.Test.YtabopillicdjaaaGreatDoorCfgPar
import Derived.Test.YtabopillicdjaaaGreatDoorRef2a
import Derived.Test.YtabopillicdjaaaGreatDoorWRDig
namespace Go.Proofs.YtabopillicdjaaaGreatDoor
open Go.RowKit
open Wd (partsL cpE cpN okW inW okUpto inUpto numW cfgWord cfgLow cfgHigh intV intE decimalB decVal bigUpto bigW bigN cfgT cfgStrs)

/-- Between the operations of a region: a cell of the world in which it begins. -/
structure Hn (W : World) (g i : Nat) (v : Value) (w' : World) : Prop where
  ow : Ow W w'
  lt : g < W.heap.size
  c : W.cell? ⟨g, i, none⟩ = some v
theorem Hn.all {W : World} {g i : Nat} {v : Value} {w' : World} (k : Hn W g i v w') : Hn W g i v w' ∧ w'.cell? ⟨g, i, none⟩ = some v := ⟨k, (k.ow.cell (p := ⟨g, i, none⟩) k.lt).trans k.c⟩
theorem Hn.drew {W : World} {g i : Nat} {v : Value} {w' : World} {r : Prop} (k : Hn W g i v w' ∧ r) : Hn W g i v w'.drew := ⟨k.1.ow.drew, k.1.lt, k.1.c⟩
theorem Hn.after {W : World} {g i : Nat} {v : Value} {w' w1 : World} {r : Prop} (hb : Ow w' w1) (k : Hn W g i v w' ∧ r) : Hn W g i v w1 := ⟨k.1.ow.then hb, k.1.lt, k.1.c⟩
theorem Hn.fin {W : World} {g i : Nat} {v : Value} {w' : World} {r : Prop} (k : Hn W g i v w' ∧ r) : Ow W w' := k.1.ow
def wordCells : Array Value := #[.string ⟨#[99, 97, 114, 115]⟩, .string ⟨#[111, 102]⟩, .string ⟨#[110, 117, 114, 115, 101, 114, 121]⟩, .string ⟨#[114, 101, 103, 105, 115, 116, 101, 114, 115]⟩, .string ⟨#[112, 111, 112, 117, 108, 97, 114]⟩]
set_option maxHeartbeats 400000 in
theorem rwd_is (w : World) : Calls Tryz.prog 50 #[] w fun e w' => e = .returned (.agg wordCells) ∧ Ow w w' := by
  go_enter Tryz.func50, Tryz.ntmps50
  go_wp2
  exact bodyPost_ret (v := .agg wordCells) (by simp [results, Tryz.results50, go_sem, wordCells]) rfl ⟨rfl, (Ow.refl _).alloc _⟩
theorem rdg_is (n : Int) (u : ByteArray) (hu : u.data.toList = Lib.itoa n) (w : World) (he : Ends n n) : Calls Tryz.prog 51 #[.int .i64 n] w fun e w' => e = .returned (.string u) ∧ Ow w w' :=
  rdigits_any (n.natAbs + 1) n u w (by omega) he hu
theorem crint_is (s : ByteArray) (lo hi v m : Int) (hv : intV s.data.toList lo hi = v) (hm : intE s.data.toList lo hi = m) (w : World) (hs : s.size ≤ 9000) (he : Ends lo hi) : Calls Tryz.prog 52 #[.string s, .int .i64 lo, .int .i64 hi] w fun e w' => e = .returned (.tuple #[.int .i64 v, .int .i64 m]) ∧ Ow w w' := by
  have := rint_any s lo hi w hs he
  unfold IPost at this
  rwa [hv, hm] at this
/-- What Print's loop has written before round k. -/
def pre (C N S K Q : Int) (k : Nat) : List UInt8 := Lib.join ((cfgStrs C N S K Q).take (2 * k)) [32]
theorem pre_step {C N S K Q : Int} {k : Nat} (h0 : 0 < k) (h5 : k < 5) : pre C N S K Q (k + 1) = pre C N S K Q k ++ [32] ++ (cfgStrs C N S K Q).getD (2 * k) [] ++ [32] ++ (cfgStrs C N S K Q).getD (2 * k + 1) [] := by
  rcases (show k = 1 ∨ k = 2 ∨ k = 3 ∨ k = 4 by omega) with rfl | rfl | rfl | rfl <;> simp [pre, cfgStrs, Lib.join, List.intercalate]
theorem pre_zero (C N S K Q : Int) : pre C N S K Q 1 = (cfgStrs C N S K Q).getD 0 [] ++ [32] ++ (cfgStrs C N S K Q).getD 1 [] := by simp [pre, cfgStrs, Lib.join, List.intercalate]
theorem pre_five (C N S K Q : Int) : pre C N S K Q 5 = cfgT C N S K Q := by simp [pre, cfgT, cfgStrs]
def RpPost (C N S K Q : Int) (w : World) (e : Ending) (w' : World) : Prop := (∃ t : ByteArray, t.data.toList = (if okC C N S K Q = true then cfgT C N S K Q else []) ∧ e = .returned (.tuple #[.string t, .int .i64 (chkE C N S K Q)])) ∧ Ow w w'

set_option maxRecDepth 100000 in
set_option maxHeartbeats 4000000 in
theorem rprint_any (C N S K Q : Int) (w : World) :
    Calls Tryz.prog 19 #[.agg #[.int .i64 C, .int .i64 N, .int .i64 S, .int .i64 K, .int .i64 Q]] w (RpPost C N S K Q w) := by
  have HX : Hid (Bx w.heap.size #[.int .i64 C, .int .i64 N, .int .i64 S, .int .i64 K, .int .i64 Q] 45 (w.alloc (.cells #[.int .i64 C, .int .i64 N, .int .i64 S, .int .i64 K, .int .i64 Q] 45))) := Bx.new _ _ _
  have HA : Hid (Ow w (w.alloc (.cells #[.int .i64 C, .int .i64 N, .int .i64 S, .int .i64 K, .int .i64 Q] 45))) := (Ow.refl _).alloc _
  cases h : okC C N S K Q with
  | false =>
    have H := Lib.hid h
    clear h
    go_enter Tryz.func19, Tryz.ntmps19
    go_wp2_with (go_at_call 49; refine (rcheck_bad _ _ _ _ _ _ H.out).mono ?_; rintro e w1 ⟨rfl, hb⟩)
    go_ret2
    refine ⟨⟨⟨#[]⟩, by rw [H.out]; rfl, ?_⟩, HA.out.then hb⟩
    rw [chkE, H.out]; rfl
  | true =>
    have H := Lib.hid h
    obtain ⟨h1, h2, h3, h4, h5, h6, h7, h8, h9, h10⟩ := okC_bounds h
    clear h
    go_enter Tryz.func19, Tryz.ntmps19
    go_wp2_with fail
    (go_at_call 49; refine (rcheck_ok _ _ _ _ _ _ H.out).mono ?_; rintro e w1 ⟨rfl, hb⟩)
    have O1 := Lib.hid (HA.out.then hb)
    have X1 := Lib.hid (HX.out.then hb)
    have c0 := X1.out.at (i := 0) rfl
    have c1 := X1.out.at (i := 1) rfl
    have c2 := X1.out.at (i := 2) rfl
    have c3 := X1.out.at (i := 3) rfl
    have c4 := X1.out.at (i := 4) rfl
    have hz1 : w.heap.size ≤ w1.heap.size := O1.out.size
    clear hb
    go_wp2_with fail
    have HN : Hid (Bx w1.heap.size #[.int .i64 N, .int .i64 C, .int .i64 S, .int .i64 K, .int .i64 Q] 99 (w1.alloc (.cells #[.int .i64 N, .int .i64 C, .int .i64 S, .int .i64 K, .int .i64 Q] 99))) := Bx.new _ _ _
    go_loopw [6, 7] (fun s i wr => ∃ (k : Nat) (t : ByteArray), k ≤ 5 ∧ i = .int .i64 k ∧ s = .string t ∧ t.size ≤ 60 * k ∧ Hid (t.data.toList = pre C N S K Q k) ∧ Hid (Bx w1.heap.size #[.int .i64 N, .int .i64 C, .int .i64 S, .int .i64 K, .int .i64 Q] 99 wr) ∧ Hid (Ow w wr)) (fun _ i _ => 5 - (intOf i).toNat)
    case atStart => exact ⟨0, ⟨#[]⟩, by omega, rfl, rfl, by decide, rfl, HN, O1.out.alloc _⟩
    case round =>
      obtain ⟨k, t, hk, rfl, rfl, hts, HT, HB, HO⟩ := hrel
      clear c0 c1 c2 c3 c4 HN X1
      by_cases h5' : k = 5
      · subst h5'
        go_wp2
        go_ret2
        refine ⟨⟨t, ?_, ?_⟩, HO.out⟩
        · rw [H.out, HT.out, pre_five]; rfl
        · rw [chkE, H.out]; rfl
      · rcases (show k = 0 ∨ k = 1 ∨ k = 2 ∨ k = 3 ∨ k = 4 by omega) with rfl | rfl | rfl | rfl | rfl
        · obtain ⟨u, hu⟩ : ∃ u : ByteArray, u.data.toList = Lib.itoa N := ⟨⟨(Lib.itoa N).toArray⟩, rfl⟩
          have HU := Lib.hid hu
          have HE : Hid (Ends N N) := ⟨by omega, by omega⟩
          have hus : u.size ≤ 21 := by rw [← ba_len, hu]; exact itoa_le HE.out
          have hc : wr.cell? ⟨w1.heap.size, 0, none⟩ = some (.int .i64 N) := HB.out.at (i := 0) rfl
          have hh := Hn.all (show Hn wr w1.heap.size 0 (.int .i64 N) wr from ⟨Ow.refl _, HB.out.lt, hc⟩)
          have ix : ∀ W, (Instr.index 100 (.agg wordCells) (.int .i64 0)).run Tryz.prog W = .ok (.string ⟨#[99, 97, 114, 115]⟩) W := fun _ => by kernel_rfl
          have z1 : ¬9223372036854775807 < t.size + 4 := by omega
          have z2 : ¬9223372036854775807 < t.size + 4 + 1 := by omega
          have z3 : ¬9223372036854775807 < t.size + 4 + 1 + u.size := by omega
          clear hu hc hk h5' h1 h2 h3 h4 h5 h6 h7 h8 h9 h10
          go_wp2_with fail
          go_region_held3 (fun w' => Hn wr w1.heap.size 0 (.int .i64 N) w' ∧ w'.cell? ⟨w1.heap.size, 0, none⟩ = some (.int .i64 N)) (first | assumption | exact Hn.all (by assumption) | exact (Hn.drew (by assumption)).all | exact (Hn.after (by assumption) (by assumption)).all) (first
            | (go_at_call 50; refine (rwd_is _).mono ?_; rintro e w2 ⟨rfl, hb2⟩)
            | (go_at_call 51; refine (rdg_is N u HU.out _ HE.out).mono ?_; rintro e w3 ⟨rfl, hb3⟩))
          all_goals
            have O2 : Hid (Ow wr _) := Hn.fin (by assumption)
            go_wp2_with fail
            go_roundw
            case rel => exact ⟨1, _, by omega, by go_num, rfl, by have e1 : (⟨#[99, 97, 114, 115]⟩ : ByteArray).size = 4 := rfl; have e2 : (⟨#[32]⟩ : ByteArray).size = 1 := rfl; simp; omega, by rw [Hid]; simp only [ba_app, HT.out, HU.out]; rw [pre_zero]; simp [pre, cfgStrs, cfgWord, Lib.join, List.intercalate], HB.out.then O2.out, HO.out.then O2.out⟩
            case measure => simp [intOf]
        · obtain ⟨u, hu⟩ : ∃ u : ByteArray, u.data.toList = Lib.itoa C := ⟨⟨(Lib.itoa C).toArray⟩, rfl⟩
          have HU := Lib.hid hu
          have HE : Hid (Ends C C) := ⟨by omega, by omega⟩
          have hus : u.size ≤ 21 := by rw [← ba_len, hu]; exact itoa_le HE.out
          have hc : wr.cell? ⟨w1.heap.size, 1, none⟩ = some (.int .i64 C) := HB.out.at (i := 1) rfl
          have hh := Hn.all (show Hn wr w1.heap.size 1 (.int .i64 C) wr from ⟨Ow.refl _, HB.out.lt, hc⟩)
          have ix : ∀ W, (Instr.index 100 (.agg wordCells) (.int .i64 1)).run Tryz.prog W = .ok (.string ⟨#[111, 102]⟩) W := fun _ => by kernel_rfl
          have z1 : ¬9223372036854775807 < t.size + 1 + 2 := by omega
          have z2 : ¬9223372036854775807 < t.size + 1 + 2 + 1 := by omega
          have z3 : ¬9223372036854775807 < t.size + 1 + 2 + 1 + u.size := by omega
          clear hu hc hk h5' h1 h2 h3 h4 h5 h6 h7 h8 h9 h10
          go_wp2_with fail
          go_region_held3 (fun w' => Hn wr w1.heap.size 1 (.int .i64 C) w' ∧ w'.cell? ⟨w1.heap.size, 1, none⟩ = some (.int .i64 C)) (first | assumption | exact Hn.all (by assumption) | exact (Hn.drew (by assumption)).all | exact (Hn.after (by assumption) (by assumption)).all) (first
            | (go_at_call 50; refine (rwd_is _).mono ?_; rintro e w2 ⟨rfl, hb2⟩)
            | (go_at_call 51; refine (rdg_is C u HU.out _ HE.out).mono ?_; rintro e w3 ⟨rfl, hb3⟩))
          all_goals
            have O2 : Hid (Ow wr _) := Hn.fin (by assumption)
            go_wp2_with fail
            go_roundw
            case rel => exact ⟨2, _, by omega, by go_num, rfl, by have e1 : (⟨#[111, 102]⟩ : ByteArray).size = 2 := rfl; have e2 : (⟨#[32]⟩ : ByteArray).size = 1 := rfl; simp; omega, by rw [Hid]; simp only [ba_app, HT.out, HU.out]; rw [pre_step (k := 1) (by omega) (by omega)]; simp [cfgStrs, cfgWord], HB.out.then O2.out, HO.out.then O2.out⟩
            case measure => simp [intOf]
        · obtain ⟨u, hu⟩ : ∃ u : ByteArray, u.data.toList = Lib.itoa S := ⟨⟨(Lib.itoa S).toArray⟩, rfl⟩
          have HU := Lib.hid hu
          have HE : Hid (Ends S S) := ⟨by omega, by omega⟩
          have hus : u.size ≤ 21 := by rw [← ba_len, hu]; exact itoa_le HE.out
          have hc : wr.cell? ⟨w1.heap.size, 2, none⟩ = some (.int .i64 S) := HB.out.at (i := 2) rfl
          have hh := Hn.all (show Hn wr w1.heap.size 2 (.int .i64 S) wr from ⟨Ow.refl _, HB.out.lt, hc⟩)
          have ix : ∀ W, (Instr.index 100 (.agg wordCells) (.int .i64 2)).run Tryz.prog W = .ok (.string ⟨#[110, 117, 114, 115, 101, 114, 121]⟩) W := fun _ => by kernel_rfl
          have z1 : ¬9223372036854775807 < t.size + 1 + 7 := by omega
          have z2 : ¬9223372036854775807 < t.size + 1 + 7 + 1 := by omega
          have z3 : ¬9223372036854775807 < t.size + 1 + 7 + 1 + u.size := by omega
          clear hu hc hk h5' h1 h2 h3 h4 h5 h6 h7 h8 h9 h10
          go_wp2_with fail
          go_region_held3 (fun w' => Hn wr w1.heap.size 2 (.int .i64 S) w' ∧ w'.cell? ⟨w1.heap.size, 2, none⟩ = some (.int .i64 S)) (first | assumption | exact Hn.all (by assumption) | exact (Hn.drew (by assumption)).all | exact (Hn.after (by assumption) (by assumption)).all) (first
            | (go_at_call 50; refine (rwd_is _).mono ?_; rintro e w2 ⟨rfl, hb2⟩)
            | (go_at_call 51; refine (rdg_is S u HU.out _ HE.out).mono ?_; rintro e w3 ⟨rfl, hb3⟩))
          all_goals
            have O2 : Hid (Ow wr _) := Hn.fin (by assumption)
            go_wp2_with fail
            go_roundw
            case rel => exact ⟨3, _, by omega, by go_num, rfl, by have e1 : (⟨#[110, 117, 114, 115, 101, 114, 121]⟩ : ByteArray).size = 7 := rfl; have e2 : (⟨#[32]⟩ : ByteArray).size = 1 := rfl; simp; omega, by rw [Hid]; simp only [ba_app, HT.out, HU.out]; rw [pre_step (k := 2) (by omega) (by omega)]; simp [cfgStrs, cfgWord], HB.out.then O2.out, HO.out.then O2.out⟩
            case measure => simp [intOf]
        · obtain ⟨u, hu⟩ : ∃ u : ByteArray, u.data.toList = Lib.itoa K := ⟨⟨(Lib.itoa K).toArray⟩, rfl⟩
          have HU := Lib.hid hu
          have HE : Hid (Ends K K) := ⟨by omega, by omega⟩
          have hus : u.size ≤ 21 := by rw [← ba_len, hu]; exact itoa_le HE.out
          have hc : wr.cell? ⟨w1.heap.size, 3, none⟩ = some (.int .i64 K) := HB.out.at (i := 3) rfl
          have hh := Hn.all (show Hn wr w1.heap.size 3 (.int .i64 K) wr from ⟨Ow.refl _, HB.out.lt, hc⟩)
          have ix : ∀ W, (Instr.index 100 (.agg wordCells) (.int .i64 3)).run Tryz.prog W = .ok (.string ⟨#[114, 101, 103, 105, 115, 116, 101, 114, 115]⟩) W := fun _ => by kernel_rfl
          have z1 : ¬9223372036854775807 < t.size + 1 + 9 := by omega
          have z2 : ¬9223372036854775807 < t.size + 1 + 9 + 1 := by omega
          have z3 : ¬9223372036854775807 < t.size + 1 + 9 + 1 + u.size := by omega
          clear hu hc hk h5' h1 h2 h3 h4 h5 h6 h7 h8 h9 h10
          go_wp2_with fail
          go_region_held3 (fun w' => Hn wr w1.heap.size 3 (.int .i64 K) w' ∧ w'.cell? ⟨w1.heap.size, 3, none⟩ = some (.int .i64 K)) (first | assumption | exact Hn.all (by assumption) | exact (Hn.drew (by assumption)).all | exact (Hn.after (by assumption) (by assumption)).all) (first
            | (go_at_call 50; refine (rwd_is _).mono ?_; rintro e w2 ⟨rfl, hb2⟩)
            | (go_at_call 51; refine (rdg_is K u HU.out _ HE.out).mono ?_; rintro e w3 ⟨rfl, hb3⟩))
          all_goals
            have O2 : Hid (Ow wr _) := Hn.fin (by assumption)
            go_wp2_with fail
            go_roundw
            case rel => exact ⟨4, _, by omega, by go_num, rfl, by have e1 : (⟨#[114, 101, 103, 105, 115, 116, 101, 114, 115]⟩ : ByteArray).size = 9 := rfl; have e2 : (⟨#[32]⟩ : ByteArray).size = 1 := rfl; simp; omega, by rw [Hid]; simp only [ba_app, HT.out, HU.out]; rw [pre_step (k := 3) (by omega) (by omega)]; simp [cfgStrs, cfgWord], HB.out.then O2.out, HO.out.then O2.out⟩
            case measure => simp [intOf]
        · obtain ⟨u, hu⟩ : ∃ u : ByteArray, u.data.toList = Lib.itoa Q := ⟨⟨(Lib.itoa Q).toArray⟩, rfl⟩
          have HU := Lib.hid hu
          have HE : Hid (Ends Q Q) := ⟨by omega, by omega⟩
          have hus : u.size ≤ 21 := by rw [← ba_len, hu]; exact itoa_le HE.out
          have hc : wr.cell? ⟨w1.heap.size, 4, none⟩ = some (.int .i64 Q) := HB.out.at (i := 4) rfl
          have hh := Hn.all (show Hn wr w1.heap.size 4 (.int .i64 Q) wr from ⟨Ow.refl _, HB.out.lt, hc⟩)
          have ix : ∀ W, (Instr.index 100 (.agg wordCells) (.int .i64 4)).run Tryz.prog W = .ok (.string ⟨#[112, 111, 112, 117, 108, 97, 114]⟩) W := fun _ => by kernel_rfl
          have z1 : ¬9223372036854775807 < t.size + 1 + 7 := by omega
          have z2 : ¬9223372036854775807 < t.size + 1 + 7 + 1 := by omega
          have z3 : ¬9223372036854775807 < t.size + 1 + 7 + 1 + u.size := by omega
          clear hu hc hk h5' h1 h2 h3 h4 h5 h6 h7 h8 h9 h10
          go_wp2_with fail
          go_region_held3 (fun w' => Hn wr w1.heap.size 4 (.int .i64 Q) w' ∧ w'.cell? ⟨w1.heap.size, 4, none⟩ = some (.int .i64 Q)) (first | assumption | exact Hn.all (by assumption) | exact (Hn.drew (by assumption)).all | exact (Hn.after (by assumption) (by assumption)).all) (first
            | (go_at_call 50; refine (rwd_is _).mono ?_; rintro e w2 ⟨rfl, hb2⟩)
            | (go_at_call 51; refine (rdg_is Q u HU.out _ HE.out).mono ?_; rintro e w3 ⟨rfl, hb3⟩))
          all_goals
            have O2 : Hid (Ow wr _) := Hn.fin (by assumption)
            go_wp2_with fail
            go_roundw
            case rel => exact ⟨5, _, by omega, by go_num, rfl, by have e1 : (⟨#[112, 111, 112, 117, 108, 97, 114]⟩ : ByteArray).size = 7 := rfl; have e2 : (⟨#[32]⟩ : ByteArray).size = 1 := rfl; simp; omega, by rw [Hid]; simp only [ba_app, HT.out, HU.out]; rw [pre_step (k := 4) (by omega) (by omega)]; simp [cfgStrs, cfgWord], HB.out.then O2.out, HO.out.then O2.out⟩
            case measure => simp [intOf]
/-! Parse. -/
theorem Bx.grown {b : Nat} {cs : Array Value} {T : TypeId} {W W' : World} {row : Option Nat} (h : Bx b cs T W) (hg : W.grownBy W' row) (hr : row ≠ some b) : Bx b cs T W' := (hg.block b h.lt (fun e => hr e.symm)).trans h
theorem Ow.grow1 {w W w4 : World} {base : Nat} {e : TypeId} {size : Nat} {v : Value} {n : Nat} {xs : List Value} (h : Ow w W) (ho : W.ownsRow base e size v n xs) (hw : w.heap.size ≤ base) (hz : base ≤ W.heap.size) (hg : W.grownBy w4 v.ownBlock) : Ow w w4 :=
  Below.trans h ((own_after ho hg (Below.refl _ _) hz).mono hw)
/-- What stands behind i bytes of Parse's first loop. -/
structure CI (l : List UInt8) (i a : Nat) (xs : List ByteArray) : Prop where
  le : a ≤ i
  cut : xs.map (·.data.toList) ++ partsL 32 (l.drop a) = partsL 32 l
  no : ∀ j, a ≤ j → j < i → l[j]? ≠ some 32
  len : xs.length ≤ a
theorem CI.skip {l : List UInt8} {i a : Nat} {xs : List ByteArray} (h : CI l i a xs) {d : UInt8} (hc : l[i]? = some d) (hd : d ≠ 32) : CI l (i + 1) a xs :=
  ⟨by have := h.le; omega, h.cut, fun j h1 h2 => by
    by_cases hj : j = i
    · subst hj; rw [hc]; simpa using hd
    · exact h.no j h1 (by omega), h.len⟩
theorem CI.hit {l : List UInt8} {i a : Nat} {xs : List ByteArray} (h : CI l i a xs) (hc : l[i]? = some 32) {t : ByteArray} (ht : t.data.toList = (l.drop a).take (i - a)) : CI l (i + 1) (i + 1) (xs ++ [t]) := by
  refine ⟨Nat.le_refl _, ?_, fun j h1 h2 => by omega, by have := h.len; have := h.le; simp; omega⟩
  have h1 := h.cut
  rw [Wd.parts_step h.le hc h.no, ← ht] at h1
  rw [← h1]
  simp
theorem CI.done {l : List UInt8} {i a : Nat} {xs : List ByteArray} (h : CI l i a xs) (hi : l.length ≤ i) {t : ByteArray} (ht : t.data.toList = (l.drop a).take (i - a)) : (xs ++ [t]).map (·.data.toList) = partsL 32 l := by
  have h1 := h.cut
  rw [List.take_of_length_le (by rw [List.length_drop]; omega)] at ht
  rw [Wd.parts_last (fun j h2 h3 => h.no j h2 (by omega)), ← ht] at h1
  rw [← h1]; simp
theorem cext_mid (s : ByteArray) (a k : Nat) : (s.extract a k).data.toList = (s.data.toList.drop a).take (k - a) := by
  simp [List.extract_eq_take_drop]
/-- What Parse's first loop holds. -/
def CiAt (s : ByteArray) (k a : Nat) (xs : List ByteArray) : Prop := (k ≤ s.size ∧ CI s.data.toList k a xs) ∨ (k = s.size + 1 ∧ xs.map (·.data.toList) = partsL 32 s.data.toList)
def zero5 : Array Value := #[.int .i64 0, .int .i64 0, .int .i64 0, .int .i64 0, .int .i64 0]
/-- What stands in a round of Parse's second loop. -/
structure RP (w : World) (R h B : Nat) (PL : List (List UInt8)) (cs : Array Value) (wr : World) : Prop where
  old : Ow w wr
  res : Bx R cfg0 45 wr
  arr : Bx B cs 99 wr
  hlt : h < wr.heap.size
  str : ∀ (i : Nat) x, PL[i]? = some x → wr.cell? ⟨h, i, none⟩ = some (.string ⟨x.toArray⟩)
  wB : w.heap.size ≤ B
  wR : w.heap.size ≤ R
  rB : R ≠ B
  hB : h ≠ B
theorem RP.then {w : World} {R h B : Nat} {PL : List (List UInt8)} {cs : Array Value} {W w1 : World} (k : RP w R h B PL cs W) (hb : Ow W w1) : RP w R h B PL cs w1 :=
  ⟨k.old.then hb, k.res.then hb, k.arr.then hb, Nat.lt_of_lt_of_le k.hlt hb.size, fun i x hx => (hb.cell (p := ⟨h, i, none⟩) k.hlt).trans (k.str i x hx), k.wB, k.wR, k.rB, k.hB⟩
theorem RP.set {w : World} {R h B : Nat} {PL : List (List UInt8)} {cs : Array Value} {W : World} (k : RP w R h B PL cs W) (i : Nat) (v : Value) : RP w R h B PL (cs.setIfInBounds i v) (W.setCell ⟨B, i, none⟩ v) :=
  ⟨k.old.set k.wB i v, k.res.other k.rB i v, k.arr.set i v, by simpa using k.hlt, fun j x hx => (World.cell?_setCell_other W ⟨B, i, none⟩ ⟨h, j, none⟩ v (by simp only [ne_eq, Addr.mk.injEq, not_and]; intro e; exact absurd e.symm k.hB)).trans (k.str j x hx), k.wB, k.wR, k.rB, k.hB⟩
def rcCells (L : List (List UInt8)) (k : Nat) : Array Value :=
  let f := fun i => Value.int .i64 (if i < k then bigN L i else 0)
  #[f 0, f 1, f 2, f 3, f 4]
theorem cref_ret {s : ByteArray} {w W : World} {u : Array Value} {R : Nat} {c0 c1 c2 c3 c4 m : Int} (hR : Bx R #[.int .i64 c0, .int .i64 c1, .int .i64 c2, .int .i64 c3, .int .i64 c4] 45 W)
    (h2 : u[2]? = some (.pointer (some ⟨R, 0, none⟩))) (h3 : u[3]? = some (.int .i64 m)) (hq : CtPost s w (.returned (.tuple #[.agg #[.int .i64 c0, .int .i64 c1, .int .i64 c2, .int .i64 c3, .int .i64 c4], .int .i64 m])) W) :
    bodyPost Tryz.prog Tryz.f21 (CtPost s w) Exit.ret { tmps := u, defers := [] } W := by
  have c0 := hR.at (i := 0) rfl
  have c1 := hR.at (i := 1) rfl
  have c2 := hR.at (i := 2) rfl
  have c3 := hR.at (i := 3) rfl
  have c4 := hR.at (i := 4) rfl
  refine bodyPost_ret (v := .tuple #[.agg #[.int .i64 _, .int .i64 _, .int .i64 _, .int .i64 _, .int .i64 _], .int .i64 m]) ?_ rfl hq
  simp [results, Tryz.results21, go_sem, h2, h3, c0, c1, c2, c3, c4]
theorem int_dec {l : List UInt8} {lo hi : Int} (h : decimalB l = true) : intE l lo hi = if decide (lo ≤ decVal l ∧ decVal l ≤ hi) = true then 0 else 7 := by
  rw [intE, if_pos h]
  by_cases hr : lo ≤ decVal l ∧ decVal l ≤ hi
  · rw [if_pos hr, if_pos (by simpa using hr)]
  · rw [if_neg hr, if_neg (by simpa using hr)]
theorem big_out {L : List (List UInt8)} {k : Nat} {b0 b : Bool} {m : Int} (h0 : b0 = !bigUpto L k) (hc : (b0 = true ∧ b = true) ∨ (b0 = false ∧ b = (m != 0))) (h : m = if bigW L k = true then 0 else 7) : b = !bigUpto L (k + 1) := by
  rw [bigUpto]
  rcases hc with ⟨rfl, rfl⟩ | ⟨rfl, rfl⟩
  · cases hb : bigUpto L k with
    | true => rw [hb] at h0; cases h0
    | false => rfl
  · cases hb : bigUpto L k with
    | false => rw [hb] at h0; cases h0
    | true =>
      rw [h]
      cases bigW L k <;> decide
theorem rc_set {w : World} {R h B k : Nat} {PL : List (List UInt8)} {W : World} {v : Int} (hk : k < 5) (r : RP w R h B PL (rcCells PL k) W) (hv : bigN PL k = v) : Hid (RP w R h B PL (rcCells PL (k + 1)) (W.setCell ⟨B, k, none⟩ (.int .i64 v))) := by
  have h := r.set k (.int .i64 v)
  have e : (rcCells PL k).setIfInBounds k (.int .i64 v) = rcCells PL (k + 1) := by
    rw [← hv]
    rcases (show k = 0 ∨ k = 1 ∨ k = 2 ∨ k = 3 ∨ k = 4 by omega) with rfl | rfl | rfl | rfl | rfl <;> simp [rcCells]
  rwa [e] at h
theorem rw_six {s : ByteArray} {PL : List (List UInt8)} (hPL : partsL 32 s.data.toList = PL) (h : PL.length ≠ 10) : cpE s.data.toList = 6 ∧ ∀ i, cpN s.data.toList i = 0 := ct_len (by rw [hPL]; exact h)

set_option maxRecDepth 100000 in
set_option maxHeartbeats 20000000 in
theorem rparse_any (s : ByteArray) (w : World) (hs : s.size ≤ 9000) :
    Calls Tryz.prog 21 #[.string s] w (CtPost s w) := by
  obtain ⟨i0, hi0, hz0, hz1, hz2⟩ := info_parts Tryz.infoStr
  obtain ⟨PL, hPL⟩ : ∃ PL, partsL 32 s.data.toList = PL := ⟨_, rfl⟩
  have HPL := Lib.hid hPL
  have HSz : Hid (∀ x ∈ PL, x.length ≤ 9000) := fun x hx => by have := parts_size (t := s) (by rw [hPL]; exact hx); omega
  have HX : Hid (Bx w.heap.size cfg0 45 (w.alloc (.cells #[.int .i64 0, .int .i64 0, .int .i64 0, .int .i64 0, .int .i64 0] 45))) := Bx.new _ _ _
  have HA : Hid (Ow w (w.alloc (.cells #[.int .i64 0, .int .i64 0, .int .i64 0, .int .i64 0, .int .i64 0] 45))) := (Ow.refl _).alloc _
  clear hPL
  go_enter Tryz.func21, Tryz.ntmps21
  go_wp2_with fail
  go_loopw [4, 5, 6] (fun v f i wr => ∃ (k a : Nat) (xs : List ByteArray), k ≤ s.size + 1 ∧ i = .int .i64 k ∧ f = .int .i64 a ∧ a ≤ k ∧ xs.length ≤ a ∧ Hid (CiAt s k a xs) ∧ Hid (wr.ownsRow (w.heap.size + 1) 9 1 v xs.length (xs.map Value.string)) ∧ Hid (Bx w.heap.size cfg0 45 wr) ∧ Hid (Ow w wr) ∧ w.heap.size + 1 ≤ wr.heap.size) (fun _ _ i _ => s.size + 1 - (intOf i).toNat)
  case atStart => exact ⟨0, 0, [], by omega, rfl, rfl, by omega, by simp, .inl ⟨by omega, ⟨Nat.le_refl _, rfl, fun _ _ h => absurd h (Nat.not_lt_zero _), Nat.le_refl _⟩⟩, World.ownsRow_nil _ _ _ _, HX.out, HA.out, by simp⟩
  case round =>
    obtain ⟨k, a, xs, hk, rfl, rfl, hak, hxa, HCi, HO, HR, HB, hszr⟩ := hrel
    clear HX HA
    by_cases hlt : k < s.size
    · have hci : Hid (CI s.data.toList k a xs) := by rcases HCi.out with ⟨_, h⟩ | ⟨h, _⟩; exact h; omega
      obtain ⟨q, hq⟩ : ∃ q : Nat, s[k].toNat = q := ⟨_, rfl⟩
      have el : decide ((k : Int) ≤ (s.size : Int)) = true := decide_eq_true (by omega)
      have ek : ((k : Int) == (s.size : Int)) = false := by rw [beq_eq_false_iff_ne]; omega
      by_cases hqm : q = 32
      · have HC : Hid (s.data.toList[k]? = some 32) := by rw [Hid, ba_at s k hlt, UInt8.toNat_inj.1 (show s[k].toNat = (32 : UInt8).toNat by rw [hq, hqm]; rfl)]
        have HX := Lib.hid (hci.out.hit HC.out (cext_mid s a k))
        subst hqm
        go_wp2_with (at_builtin; refine wpList_append_own _ rfl _ _ 56 rfl (w.heap.size + 1) 9 i0 (.string ByteArray.empty) 1 16 Tryz.underlying56 hi0 hz0 hz1 hz2 rfl (by decide) _ xs.length (xs.map Value.string) rfl (HO.out.alloc _) ⟨wr.heap.size, 0, none⟩ 1 1 [.string (s.extract a k)] rfl rfl (cell_one_new _ _ _) (by simp [Value.oneCell']) (by unfold maxLen; omega) (by omega) (by simp; omega) ?_; intro v4 w4 hown4 hgrow4 hnil4)
        go_roundw
        case rel => exact ⟨k + 1, k + 1, xs ++ [s.extract a k], by omega, by go_num, by go_num, by omega, by simp; omega, .inl ⟨by omega, HX.out⟩, by rw [Hid]; simpa using hown4, (HR.out.alloc _).grown hgrow4 (own_ne HO.out (.inr (by omega))), (HB.out.alloc _).grow1 (HO.out.alloc _) (by omega) (by simp; omega) hgrow4, by have := hgrow4.size; simp at this; omega⟩
        case measure => simp [intOf]; omega
      · have e10 : ((q : Int) == 32) = false := by rw [beq_eq_false_iff_ne]; omega
        have HX := Lib.hid (hci.out.skip (ba_at s k hlt) (fun e => hqm (by rw [← hq, e]; rfl)))
        clear hqm
        go_wp2
        go_roundw
        case rel => exact ⟨k + 1, a, xs, by omega, by go_num, rfl, by omega, hxa, .inl ⟨by omega, HX.out⟩, HO, HR, HB, hszr⟩
        case measure => simp [intOf]; omega
    · by_cases hke : k = s.size
      · have hci : Hid (CI s.data.toList k a xs) := by rcases HCi.out with ⟨_, h⟩ | ⟨h, _⟩; exact h; omega
        subst hke
        have HX := Lib.hid (hci.out.done (by rw [ba_len]; omega) (cext_mid s a s.size))
        clear hlt
        go_wp2_with (at_builtin; refine wpList_append_own _ rfl _ _ 56 rfl (w.heap.size + 1) 9 i0 (.string ByteArray.empty) 1 16 Tryz.underlying56 hi0 hz0 hz1 hz2 rfl (by decide) _ xs.length (xs.map Value.string) rfl (HO.out.alloc _) ⟨wr.heap.size, 0, none⟩ 1 1 [.string (s.extract a s.size)] rfl rfl (cell_one_new _ _ _) (by simp [Value.oneCell']) (by unfold maxLen; omega) (by omega) (by simp; omega) ?_; intro v4 w4 hown4 hgrow4 hnil4)
        go_roundw
        case rel => exact ⟨s.size + 1, s.size + 1, xs ++ [s.extract a s.size], by omega, by go_num, by go_num, by omega, by simp; omega, .inr ⟨by omega, HX.out⟩, by rw [Hid]; simpa using hown4, (HR.out.alloc _).grown hgrow4 (own_ne HO.out (.inr (by omega))), (HB.out.alloc _).grow1 (HO.out.alloc _) (by omega) (by simp; omega) hgrow4, by have := hgrow4.size; simp at this; omega⟩
        case measure => simp [intOf]
      · have el : decide (k ≤ s.size) = false := decide_eq_false (by omega)
        have HD : Hid (xs.map (·.data.toList) = PL) := by rcases HCi.out with ⟨h, _⟩ | ⟨_, h⟩; omega; rw [Hid, h, HPL.out]
        have HL : Hid (xs.length = PL.length) := by rw [Hid, ← HD.out, List.length_map]
        obtain ⟨g, cap, hv, hcap, hg, hc⟩ := own_strs HO.out (by rw [HL.out, ← HPL.out]; exact List.length_pos_iff.2 (Wd.parts_ne _ _))
        subst hv
        have hgw : w.heap.size + 1 ≤ g := (HO.out.lt g rfl).1
        have HCs : Hid (∀ (i : Nat) x, PL[i]? = some x → wr.cell? ⟨g, i, none⟩ = some (.string ⟨x.toArray⟩)) := fun i x hx => by
          rw [← HD.out, List.getElem?_map, Option.map_eq_some_iff] at hx
          obtain ⟨y, hy, rfl⟩ := hx
          have := hc i y hy
          rw [Nat.zero_add] at this
          rw [this, ba_mk]
        generalize hn : xs.length = n at HL ⊢
        clear hlt hke hc HO hxa hcap
        by_cases h10 : n = 10
        · subst h10
          have HN : Hid (PL.length = 10) := HL.out.symm
          clear HL
          go_wp2_with fail
          have HRP : Hid (RP w w.heap.size g wr.heap.size PL zero5 (wr.alloc (.cells #[.int .i64 0, .int .i64 0, .int .i64 0, .int .i64 0, .int .i64 0] 99))) := by
            refine ⟨HB.out.alloc _, HR.out.alloc _, Bx.new _ _ _, by simp; omega, fun i x hx => ?_, by omega, Nat.le_refl _, by omega, by omega⟩
            rw [World.cell?_alloc_lt _ _ _ hg]
            exact HCs.out i x hx
          generalize hB0 : wr.heap.size = B0 at HRP ⊢
          go_loopw [8, 9] (fun ob i wr => ∃ (k : Nat) (b0 : Bool), k ≤ 5 ∧ i = .int .i64 k ∧ ob = .bool b0 ∧ Hid (b0 = !bigUpto PL k) ∧ Hid (okUpto PL k = true) ∧ Hid (RP w w.heap.size g B0 PL (rcCells PL k) wr)) (fun _ i _ => 5 - (intOf i).toNat)
          case atStart => exact ⟨0, false, by omega, rfl, rfl, rfl, rfl, HRP.out⟩
          case round =>
            obtain ⟨k, b0, hk, rfl, rfl, HB0, HOk, HRp⟩ := hrel
            clear HRP hB0
            by_cases h5 : k = 5
            · subst h5
              obtain ⟨n0, hn0⟩ : ∃ n, bigN PL 0 = n := ⟨_, rfl⟩
              have a0 : wr.cell? ⟨B0, 0, none⟩ = some (.int .i64 n0) := by rw [← hn0]; exact HRp.out.arr.at (i := 0) rfl
              obtain ⟨n1, hn1⟩ : ∃ n, bigN PL 1 = n := ⟨_, rfl⟩
              have a1 : wr.cell? ⟨B0, 1, none⟩ = some (.int .i64 n1) := by rw [← hn1]; exact HRp.out.arr.at (i := 1) rfl
              obtain ⟨n2, hn2⟩ : ∃ n, bigN PL 2 = n := ⟨_, rfl⟩
              have a2 : wr.cell? ⟨B0, 2, none⟩ = some (.int .i64 n2) := by rw [← hn2]; exact HRp.out.arr.at (i := 2) rfl
              obtain ⟨n3, hn3⟩ : ∃ n, bigN PL 3 = n := ⟨_, rfl⟩
              have a3 : wr.cell? ⟨B0, 3, none⟩ = some (.int .i64 n3) := by rw [← hn3]; exact HRp.out.arr.at (i := 3) rfl
              obtain ⟨n4, hn4⟩ : ∃ n, bigN PL 4 = n := ⟨_, rfl⟩
              have a4 : wr.cell? ⟨B0, 4, none⟩ = some (.int .i64 n4) := by rw [← hn4]; exact HRp.out.arr.at (i := 4) rfl
              have HIn : Hid ((bigUpto PL 5 && okC n1 n0 n2 n3 n4) = inUpto PL 5) := by rw [Hid, ← hn0, ← hn1, ← hn2, ← hn3, ← hn4]; exact Wd.big_in HOk.out
              have HVn : Hid (bigUpto PL 5 = true → numW PL 0 = n0 ∧ numW PL 1 = n1 ∧ numW PL 2 = n2 ∧ numW PL 3 = n3 ∧ numW PL 4 = n4) := fun hb => by
                rw [← hn0, ← hn1, ← hn2, ← hn3, ← hn4]
                exact ⟨(Wd.big_val (by omega) HOk.out hb).symm, (Wd.big_val (by omega) HOk.out hb).symm, (Wd.big_val (by omega) HOk.out hb).symm, (Wd.big_val (by omega) HOk.out hb).symm, (Wd.big_val (by omega) HOk.out hb).symm⟩
              have R2 : Hid (RP w w.heap.size g B0 PL (rcCells PL 5) (wr.alloc (.cells #[.int .i64 n1, .int .i64 n0, .int .i64 n2, .int .i64 n3, .int .i64 n4] 45))) := HRp.out.then ((Ow.refl _).alloc _)
              have C2 : Hid (Bx wr.heap.size #[.int .i64 n1, .int .i64 n0, .int .i64 n2, .int .i64 n3, .int .i64 n4] 45 (wr.alloc (.cells #[.int .i64 n1, .int .i64 n0, .int .i64 n2, .int .i64 n3, .int .i64 n4] 45))) := Bx.new _ _ _
              clear hn0 hn1 hn2 hn3 hn4
              cases b0 with
              | true =>
                have hi : inUpto PL 5 = false := by
                  rw [← HIn.out]
                  have := HB0.out
                  cases hb : bigUpto PL 5 with
                  | true => rw [hb] at this; cases this
                  | false => rfl
                have HF := Lib.hid (ct_out (t := s.data.toList) (by rw [HPL.out]; exact HN.out) (by rw [HPL.out]; exact HOk.out) (by rw [HPL.out]; exact hi))
                clear hi
                have x0 : (wr.alloc (.cells #[.int .i64 n1, .int .i64 n0, .int .i64 n2, .int .i64 n3, .int .i64 n4] 45)).cell? ⟨w.heap.size, 0, none⟩ = some (.int .i64 0) := R2.out.res.at (i := 0) rfl
                have y0 : (wr.alloc (.cells #[.int .i64 n1, .int .i64 n0, .int .i64 n2, .int .i64 n3, .int .i64 n4] 45)).frozen? ⟨w.heap.size, 0, none⟩ = false := R2.out.res.z 0
                have x1 : (wr.alloc (.cells #[.int .i64 n1, .int .i64 n0, .int .i64 n2, .int .i64 n3, .int .i64 n4] 45)).cell? ⟨w.heap.size, 1, none⟩ = some (.int .i64 0) := R2.out.res.at (i := 1) rfl
                have y1 : (wr.alloc (.cells #[.int .i64 n1, .int .i64 n0, .int .i64 n2, .int .i64 n3, .int .i64 n4] 45)).frozen? ⟨w.heap.size, 1, none⟩ = false := R2.out.res.z 1
                have x2 : (wr.alloc (.cells #[.int .i64 n1, .int .i64 n0, .int .i64 n2, .int .i64 n3, .int .i64 n4] 45)).cell? ⟨w.heap.size, 2, none⟩ = some (.int .i64 0) := R2.out.res.at (i := 2) rfl
                have y2 : (wr.alloc (.cells #[.int .i64 n1, .int .i64 n0, .int .i64 n2, .int .i64 n3, .int .i64 n4] 45)).frozen? ⟨w.heap.size, 2, none⟩ = false := R2.out.res.z 2
                have x3 : (wr.alloc (.cells #[.int .i64 n1, .int .i64 n0, .int .i64 n2, .int .i64 n3, .int .i64 n4] 45)).cell? ⟨w.heap.size, 3, none⟩ = some (.int .i64 0) := R2.out.res.at (i := 3) rfl
                have y3 : (wr.alloc (.cells #[.int .i64 n1, .int .i64 n0, .int .i64 n2, .int .i64 n3, .int .i64 n4] 45)).frozen? ⟨w.heap.size, 3, none⟩ = false := R2.out.res.z 3
                have x4 : (wr.alloc (.cells #[.int .i64 n1, .int .i64 n0, .int .i64 n2, .int .i64 n3, .int .i64 n4] 45)).cell? ⟨w.heap.size, 4, none⟩ = some (.int .i64 0) := R2.out.res.at (i := 4) rfl
                have y4 : (wr.alloc (.cells #[.int .i64 n1, .int .i64 n0, .int .i64 n2, .int .i64 n3, .int .i64 n4] 45)).frozen? ⟨w.heap.size, 4, none⟩ = false := R2.out.res.z 4
                go_wp2
                have BR : Hid (Bx w.heap.size cfg0 45 (((((((wr.alloc (.cells #[.int .i64 n1, .int .i64 n0, .int .i64 n2, .int .i64 n3, .int .i64 n4] 45))).setCell ⟨w.heap.size, 0, none⟩ (.int .i64 0)).setCell ⟨w.heap.size, 1, none⟩ (.int .i64 0)).setCell ⟨w.heap.size, 2, none⟩ (.int .i64 0)).setCell ⟨w.heap.size, 3, none⟩ (.int .i64 0)).setCell ⟨w.heap.size, 4, none⟩ (.int .i64 0))) := (((((R2.out.res.set 0 _).set 1 _).set 2 _).set 3 _).set 4 _)
                have OR : Hid (Ow w (((((((wr.alloc (.cells #[.int .i64 n1, .int .i64 n0, .int .i64 n2, .int .i64 n3, .int .i64 n4] 45))).setCell ⟨w.heap.size, 0, none⟩ (.int .i64 0)).setCell ⟨w.heap.size, 1, none⟩ (.int .i64 0)).setCell ⟨w.heap.size, 2, none⟩ (.int .i64 0)).setCell ⟨w.heap.size, 3, none⟩ (.int .i64 0)).setCell ⟨w.heap.size, 4, none⟩ (.int .i64 0))) := (((((R2.out.old.set (Nat.le_refl _) 0 _).set (Nat.le_refl _) 1 _).set (Nat.le_refl _) 2 _).set (Nat.le_refl _) 3 _).set (Nat.le_refl _) 4 _)
                generalize hW9 : ((((((wr.alloc (.cells #[.int .i64 n1, .int .i64 n0, .int .i64 n2, .int .i64 n3, .int .i64 n4] 45))).setCell ⟨w.heap.size, 0, none⟩ (.int .i64 0)).setCell ⟨w.heap.size, 1, none⟩ (.int .i64 0)).setCell ⟨w.heap.size, 2, none⟩ (.int .i64 0)).setCell ⟨w.heap.size, 3, none⟩ (.int .i64 0)).setCell ⟨w.heap.size, 4, none⟩ (.int .i64 0) = W9 at BR OR ⊢
                exact cref_ret BR.out rfl rfl (by unfold CtPost; rw [HF.out.1, HF.out.2, HF.out.2, HF.out.2, HF.out.2, HF.out.2]; exact ⟨rfl, OR.out⟩)
              | false =>
                have hb : bigUpto PL 5 = true := by
                  have := HB0.out
                  cases hb : bigUpto PL 5 with
                  | true => rfl
                  | false => rw [hb] at this; cases this
                obtain ⟨v0, v1, v2, v3, v4⟩ := HVn.out hb
                have HIn2 : Hid (okC n1 n0 n2 n3 n4 = inUpto PL 5) := by rw [Hid, ← HIn.out, hb, Bool.true_and]
                have HV5 : Hid (numW PL 0 = n0 ∧ numW PL 1 = n1 ∧ numW PL 2 = n2 ∧ numW PL 3 = n3 ∧ numW PL 4 = n4) := ⟨v0, v1, v2, v3, v4⟩
                clear hb v0 v1 v2 v3 v4
                cases hi : inUpto PL 5 with
                | false =>
                  have HF := Lib.hid (ct_out (t := s.data.toList) (by rw [HPL.out]; exact HN.out) (by rw [HPL.out]; exact HOk.out) (by rw [HPL.out]; exact hi))
                  have HC : Hid (okC n1 n0 n2 n3 n4 = false) := by rw [Hid, HIn2.out, hi]
                  clear hi
                  go_wp2_with fail
                  (go_at_call 49; refine (rcheck_bad _ _ _ _ _ _ HC.out).mono ?_; rintro e w3 ⟨rfl, hb3⟩)
                  have R3 := Lib.hid (R2.out.then hb3)
                  clear hb3
                  have x0 : w3.cell? ⟨w.heap.size, 0, none⟩ = some (.int .i64 0) := R3.out.res.at (i := 0) rfl
                  have y0 : w3.frozen? ⟨w.heap.size, 0, none⟩ = false := R3.out.res.z 0
                  have x1 : w3.cell? ⟨w.heap.size, 1, none⟩ = some (.int .i64 0) := R3.out.res.at (i := 1) rfl
                  have y1 : w3.frozen? ⟨w.heap.size, 1, none⟩ = false := R3.out.res.z 1
                  have x2 : w3.cell? ⟨w.heap.size, 2, none⟩ = some (.int .i64 0) := R3.out.res.at (i := 2) rfl
                  have y2 : w3.frozen? ⟨w.heap.size, 2, none⟩ = false := R3.out.res.z 2
                  have x3 : w3.cell? ⟨w.heap.size, 3, none⟩ = some (.int .i64 0) := R3.out.res.at (i := 3) rfl
                  have y3 : w3.frozen? ⟨w.heap.size, 3, none⟩ = false := R3.out.res.z 3
                  have x4 : w3.cell? ⟨w.heap.size, 4, none⟩ = some (.int .i64 0) := R3.out.res.at (i := 4) rfl
                  have y4 : w3.frozen? ⟨w.heap.size, 4, none⟩ = false := R3.out.res.z 4
                  go_wp2
                  have BR : Hid (Bx w.heap.size cfg0 45 ((((((w3).setCell ⟨w.heap.size, 0, none⟩ (.int .i64 0)).setCell ⟨w.heap.size, 1, none⟩ (.int .i64 0)).setCell ⟨w.heap.size, 2, none⟩ (.int .i64 0)).setCell ⟨w.heap.size, 3, none⟩ (.int .i64 0)).setCell ⟨w.heap.size, 4, none⟩ (.int .i64 0))) := (((((R3.out.res.set 0 _).set 1 _).set 2 _).set 3 _).set 4 _)
                  have OR : Hid (Ow w ((((((w3).setCell ⟨w.heap.size, 0, none⟩ (.int .i64 0)).setCell ⟨w.heap.size, 1, none⟩ (.int .i64 0)).setCell ⟨w.heap.size, 2, none⟩ (.int .i64 0)).setCell ⟨w.heap.size, 3, none⟩ (.int .i64 0)).setCell ⟨w.heap.size, 4, none⟩ (.int .i64 0))) := (((((R3.out.old.set (Nat.le_refl _) 0 _).set (Nat.le_refl _) 1 _).set (Nat.le_refl _) 2 _).set (Nat.le_refl _) 3 _).set (Nat.le_refl _) 4 _)
                  generalize hW9 : (((((w3).setCell ⟨w.heap.size, 0, none⟩ (.int .i64 0)).setCell ⟨w.heap.size, 1, none⟩ (.int .i64 0)).setCell ⟨w.heap.size, 2, none⟩ (.int .i64 0)).setCell ⟨w.heap.size, 3, none⟩ (.int .i64 0)).setCell ⟨w.heap.size, 4, none⟩ (.int .i64 0) = W9 at BR OR ⊢
                  exact cref_ret BR.out rfl rfl (by unfold CtPost; rw [HF.out.1, HF.out.2, HF.out.2, HF.out.2, HF.out.2, HF.out.2]; exact ⟨rfl, OR.out⟩)
                | true =>
                  have HF := Lib.hid (ct_in (t := s.data.toList) (by rw [HPL.out]; exact HN.out) (by rw [HPL.out]; exact HOk.out) (by rw [HPL.out]; exact hi))
                  have HC : Hid (okC n1 n0 n2 n3 n4 = true) := by rw [Hid, HIn2.out, hi]
                  clear hi
                  go_wp2_with fail
                  (go_at_call 49; refine (rcheck_ok _ _ _ _ _ _ HC.out).mono ?_; rintro e w3 ⟨rfl, hb3⟩)
                  have R3 := Lib.hid (R2.out.then hb3)
                  have C3 := Lib.hid (C2.out.then hb3)
                  have d0 := C3.out.at (i := 0) rfl
                  have d1 := C3.out.at (i := 1) rfl
                  have d2 := C3.out.at (i := 2) rfl
                  have d3 := C3.out.at (i := 3) rfl
                  have d4 := C3.out.at (i := 4) rfl
                  clear hb3
                  have x0 : w3.cell? ⟨w.heap.size, 0, none⟩ = some (.int .i64 0) := R3.out.res.at (i := 0) rfl
                  have y0 : w3.frozen? ⟨w.heap.size, 0, none⟩ = false := R3.out.res.z 0
                  have x1 : w3.cell? ⟨w.heap.size, 1, none⟩ = some (.int .i64 0) := R3.out.res.at (i := 1) rfl
                  have y1 : w3.frozen? ⟨w.heap.size, 1, none⟩ = false := R3.out.res.z 1
                  have x2 : w3.cell? ⟨w.heap.size, 2, none⟩ = some (.int .i64 0) := R3.out.res.at (i := 2) rfl
                  have y2 : w3.frozen? ⟨w.heap.size, 2, none⟩ = false := R3.out.res.z 2
                  have x3 : w3.cell? ⟨w.heap.size, 3, none⟩ = some (.int .i64 0) := R3.out.res.at (i := 3) rfl
                  have y3 : w3.frozen? ⟨w.heap.size, 3, none⟩ = false := R3.out.res.z 3
                  have x4 : w3.cell? ⟨w.heap.size, 4, none⟩ = some (.int .i64 0) := R3.out.res.at (i := 4) rfl
                  have y4 : w3.frozen? ⟨w.heap.size, 4, none⟩ = false := R3.out.res.z 4
                  go_wp2
                  have BR : Hid (Bx w.heap.size #[.int .i64 n1, .int .i64 n0, .int .i64 n2, .int .i64 n3, .int .i64 n4] 45 ((((((w3).setCell ⟨w.heap.size, 0, none⟩ (.int .i64 n1)).setCell ⟨w.heap.size, 1, none⟩ (.int .i64 n0)).setCell ⟨w.heap.size, 2, none⟩ (.int .i64 n2)).setCell ⟨w.heap.size, 3, none⟩ (.int .i64 n3)).setCell ⟨w.heap.size, 4, none⟩ (.int .i64 n4))) := (((((R3.out.res.set 0 _).set 1 _).set 2 _).set 3 _).set 4 _)
                  have OR : Hid (Ow w ((((((w3).setCell ⟨w.heap.size, 0, none⟩ (.int .i64 n1)).setCell ⟨w.heap.size, 1, none⟩ (.int .i64 n0)).setCell ⟨w.heap.size, 2, none⟩ (.int .i64 n2)).setCell ⟨w.heap.size, 3, none⟩ (.int .i64 n3)).setCell ⟨w.heap.size, 4, none⟩ (.int .i64 n4))) := (((((R3.out.old.set (Nat.le_refl _) 0 _).set (Nat.le_refl _) 1 _).set (Nat.le_refl _) 2 _).set (Nat.le_refl _) 3 _).set (Nat.le_refl _) 4 _)
                  generalize hW9 : (((((w3).setCell ⟨w.heap.size, 0, none⟩ (.int .i64 n1)).setCell ⟨w.heap.size, 1, none⟩ (.int .i64 n0)).setCell ⟨w.heap.size, 2, none⟩ (.int .i64 n2)).setCell ⟨w.heap.size, 3, none⟩ (.int .i64 n3)).setCell ⟨w.heap.size, 4, none⟩ (.int .i64 n4) = W9 at BR OR ⊢
                  exact cref_ret BR.out rfl rfl (by unfold CtPost; rw [HF.out.1, HF.out.2, HF.out.2, HF.out.2, HF.out.2, HF.out.2, HPL.out, HV5.out.1, HV5.out.2.1, HV5.out.2.2.1, HV5.out.2.2.2.1, HV5.out.2.2.2.2]; exact ⟨rfl, OR.out⟩)
            · rcases (show k = 0 ∨ k = 1 ∨ k = 2 ∨ k = 3 ∨ k = 4 by omega) with rfl | rfl | rfl | rfl | rfl
              · obtain ⟨p0, hp0⟩ : ∃ p : ByteArray, p.data.toList = PL.getD 0 [] := ⟨⟨(PL.getD 0 []).toArray⟩, rfl⟩
                obtain ⟨p1, hp1⟩ : ∃ p : ByteArray, p.data.toList = PL.getD 1 [] := ⟨⟨(PL.getD 1 []).toArray⟩, rfl⟩
                have g0 := getD_at (L := PL) (i := 0) (d := []) (by rw [HN.out]; omega)
                have g1 := getD_at (L := PL) (i := 1) (d := []) (by rw [HN.out]; omega)
                have s0 : wr.cell? ⟨g, 0, none⟩ = some (.string p0) := by rw [HRp.out.str 0 _ g0.1, ← hp0, ba_mk]
                have s1 : wr.cell? ⟨g, 1, none⟩ = some (.string p1) := by rw [HRp.out.str 1 _ g1.1, ← hp1, ba_mk]
                have z1 : p1.size ≤ 9000 := by rw [← ba_len, hp1]; exact HSz.out _ g1.2
                obtain ⟨v, hv⟩ : ∃ v, intV (PL.getD 1 []) 0 1000000 = v := ⟨_, rfl⟩
                obtain ⟨m, hm⟩ : ∃ m, intE (PL.getD 1 []) 0 1000000 = m := ⟨_, rfl⟩
                have HP0 := Lib.hid hp0
                have HP1 := Lib.hid hp1
                have HV : Hid (intV p1.data.toList 0 1000000 = v) := by rw [Hid, hp1, hv]
                have HM : Hid (intE p1.data.toList 0 1000000 = m) := by rw [Hid, hp1, hm]
                have HVb : Hid (bigN PL 0 = v) := hv
                have hh := Hn.all (show Hn wr g 1 (.string p1) wr from ⟨Ow.refl _, HRp.out.hlt, s1⟩)
                have HS0 := Lib.hid s0
                have q1 : IntKind.i64.wrap 0 = 0 := by decide
                have q2 : IntKind.i64.wrap (0 + 1) = 1 := by decide
                have q3 : IntKind.i64.wrap 1 = 1 := by decide
                clear hp0 hp1 hv hm g0 g1 hk h5 s0 s1
                go_wp2_with fail
                (go_at_call 52; refine (crint_is p1 0 1000000 v m HV.out HM.out _ z1 ⟨by decide, by decide⟩).mono ?_; rintro e w2 ⟨rfl, hb2⟩)
                have O2 : Hid (Ow wr w2) := hb2
                have R2 := Lib.hid (HRp.out.then O2.out)
                have r0 : w2.cell? ⟨g, 0, none⟩ = some (.string p0) := (O2.out.cell (p := ⟨g, 0, none⟩) HRp.out.hlt).trans HS0.out
                have ix : ∀ W, (Instr.index 100 (.agg wordCells) (.int .i64 0)).run Tryz.prog W = .ok (.string ⟨#[99, 97, 114, 115]⟩) W := fun _ => by kernel_rfl
                have gg := Hn.all (show Hn w2 g 0 (.string p0) w2 from ⟨Ow.refl _, R2.out.hlt, r0⟩)
                clear hh hb2 r0
                go_wp2_with fail
                by_cases hw0 : PL.getD 0 [] = cfgWord 0
                · obtain rfl : p0 = ⟨#[99, 97, 114, 115]⟩ := ba_ext (by rw [HP0.out, hw0]; rfl)
                  by_cases hd : decimalB (PL.getD 1 []) = true
                  · have HOk1 : Hid (okUpto PL 1 = true) := by
                      show (okUpto PL 0 && (PL.getD 0 [] == cfgWord 0 && decimalB (PL.getD 1 []))) = true
                      rw [HOk.out, hw0, hd, beq_self_eq_true]; rfl
                    have HMm : Hid (m = if bigW PL 0 then 0 else 7) := by
                      rw [Hid, ← HM.out, HP1.out]
                      exact int_dec hd
                    have em : (m == 6) = false := by rw [beq_eq_false_iff_ne, HMm.out]; split <;> decide
                    clear hw0 hd
                    go_region_held3 (fun w' => Hn w2 g 0 (.string ⟨#[99, 97, 114, 115]⟩) w' ∧ w'.cell? ⟨g, 0, none⟩ = some (.string ⟨#[99, 97, 114, 115]⟩)) (first | assumption | exact Hn.all (by assumption) | exact (Hn.drew (by assumption)).all | exact (Hn.after (by assumption) (by assumption)).all) (first
                      | (go_at_call 50; refine (rwd_is _).mono ?_; rintro e w3 ⟨rfl, hb3⟩))
                    have O3 : Hid (Ow w2 w3) := Hn.fin (by assumption)
                    have R3 := Lib.hid (R2.out.then O3.out)
                    have a0 : w3.cell? ⟨B0, 0, none⟩ = some (.int .i64 0) := R3.out.arr.at (i := 0) rfl
                    have a1 := R3.out.arr.z 0
                    clear gg hb3
                    cases b0 with
                    | true =>
                      have HBn : Hid (true = !bigUpto PL 1) := big_out HB0.out (.inl ⟨rfl, rfl⟩) HMm.out
                      go_wp2_with fail
                      refine ⟨⟨1, true, by omega, rfl, rfl, HBn, HOk1, ?_⟩, by simp [intOf]⟩
                      exact rc_set (k := 0) (by omega) R3.out HVb.out
                    | false =>
                      have HBn : Hid ((m != 0) = !bigUpto PL 1) := big_out HB0.out (.inr ⟨rfl, rfl⟩) HMm.out
                      go_wp2_with fail
                      refine ⟨⟨1, m != 0, by omega, rfl, rfl, HBn, HOk1, ?_⟩, by simp [intOf]⟩
                      exact rc_set (k := 0) (by omega) R3.out HVb.out
                  · have HF := Lib.hid (ct_six (t := s.data.toList) (by rw [HPL.out]; exact ct_dec (k := 0) (by omega) (by simpa using hd)))
                    obtain rfl : m = 6 := by rw [← HM.out, HP1.out, intE, if_neg hd]
                    clear hw0 hd
                    go_region_held3 (fun w' => Hn w2 g 0 (.string ⟨#[99, 97, 114, 115]⟩) w' ∧ w'.cell? ⟨g, 0, none⟩ = some (.string ⟨#[99, 97, 114, 115]⟩)) (first | assumption | exact Hn.all (by assumption) | exact (Hn.drew (by assumption)).all | exact (Hn.after (by assumption) (by assumption)).all) (first
                      | (go_at_call 50; refine (rwd_is _).mono ?_; rintro e w3 ⟨rfl, hb3⟩))
                    have O3 : Hid (Ow w2 w3) := Hn.fin (by assumption)
                    have R3 := Lib.hid (R2.out.then O3.out)
                    clear gg hb3
                    have x0 : w3.cell? ⟨w.heap.size, 0, none⟩ = some (.int .i64 0) := R3.out.res.at (i := 0) rfl
                    have y0 : w3.frozen? ⟨w.heap.size, 0, none⟩ = false := R3.out.res.z 0
                    have x1 : w3.cell? ⟨w.heap.size, 1, none⟩ = some (.int .i64 0) := R3.out.res.at (i := 1) rfl
                    have y1 : w3.frozen? ⟨w.heap.size, 1, none⟩ = false := R3.out.res.z 1
                    have x2 : w3.cell? ⟨w.heap.size, 2, none⟩ = some (.int .i64 0) := R3.out.res.at (i := 2) rfl
                    have y2 : w3.frozen? ⟨w.heap.size, 2, none⟩ = false := R3.out.res.z 2
                    have x3 : w3.cell? ⟨w.heap.size, 3, none⟩ = some (.int .i64 0) := R3.out.res.at (i := 3) rfl
                    have y3 : w3.frozen? ⟨w.heap.size, 3, none⟩ = false := R3.out.res.z 3
                    have x4 : w3.cell? ⟨w.heap.size, 4, none⟩ = some (.int .i64 0) := R3.out.res.at (i := 4) rfl
                    have y4 : w3.frozen? ⟨w.heap.size, 4, none⟩ = false := R3.out.res.z 4
                    go_wp2
                    have BR : Hid (Bx w.heap.size cfg0 45 ((((((w3).setCell ⟨w.heap.size, 0, none⟩ (.int .i64 0)).setCell ⟨w.heap.size, 1, none⟩ (.int .i64 0)).setCell ⟨w.heap.size, 2, none⟩ (.int .i64 0)).setCell ⟨w.heap.size, 3, none⟩ (.int .i64 0)).setCell ⟨w.heap.size, 4, none⟩ (.int .i64 0))) := (((((R3.out.res.set 0 _).set 1 _).set 2 _).set 3 _).set 4 _)
                    have OR : Hid (Ow w ((((((w3).setCell ⟨w.heap.size, 0, none⟩ (.int .i64 0)).setCell ⟨w.heap.size, 1, none⟩ (.int .i64 0)).setCell ⟨w.heap.size, 2, none⟩ (.int .i64 0)).setCell ⟨w.heap.size, 3, none⟩ (.int .i64 0)).setCell ⟨w.heap.size, 4, none⟩ (.int .i64 0))) := (((((R3.out.old.set (Nat.le_refl _) 0 _).set (Nat.le_refl _) 1 _).set (Nat.le_refl _) 2 _).set (Nat.le_refl _) 3 _).set (Nat.le_refl _) 4 _)
                    generalize hW9 : (((((w3).setCell ⟨w.heap.size, 0, none⟩ (.int .i64 0)).setCell ⟨w.heap.size, 1, none⟩ (.int .i64 0)).setCell ⟨w.heap.size, 2, none⟩ (.int .i64 0)).setCell ⟨w.heap.size, 3, none⟩ (.int .i64 0)).setCell ⟨w.heap.size, 4, none⟩ (.int .i64 0) = W9 at BR OR ⊢
                    exact cref_ret BR.out rfl rfl (by unfold CtPost; rw [HF.out.1, HF.out.2, HF.out.2, HF.out.2, HF.out.2, HF.out.2]; exact ⟨rfl, OR.out⟩)
                · have HF := Lib.hid (ct_six (t := s.data.toList) (by rw [HPL.out]; exact ct_word (k := 0) (by omega) hw0))
                  have en : (p0.toList == [99, 97, 114, 115]) = false := by rw [ba_toList, beq_eq_false_iff_ne, HP0.out]; exact hw0
                  have en2 : (p0.toList == (⟨#[99, 97, 114, 115]⟩ : ByteArray).toList) = false := by rw [ba_toList ⟨#[99, 97, 114, 115]⟩]; exact en
                  have en3 : (p0.toList != [99, 97, 114, 115]) = true := by rw [bne, en]; rfl
                  clear hw0
                  have t0 := gg.2
                  clear gg
                  first
                    | go_region_with (go_at_call 50; refine (rwd_is _).mono ?_; rintro e w3 ⟨rfl, hb3⟩; have r9 : w3.cell? ⟨g, 0, none⟩ = some (.string p0) := (hb3.cell (p := ⟨g, 0, none⟩) (by simpa using R2.out.hlt)).trans t0)
                    | fail
                  all_goals
                    have O3 : Hid (Ow w2 w3) := ((Ow.refl _).drew).then hb3
                    have R3 := Lib.hid (R2.out.then O3.out)
                    clear hb3
                    have x0 : w3.cell? ⟨w.heap.size, 0, none⟩ = some (.int .i64 0) := R3.out.res.at (i := 0) rfl
                    have y0 : w3.frozen? ⟨w.heap.size, 0, none⟩ = false := R3.out.res.z 0
                    have x1 : w3.cell? ⟨w.heap.size, 1, none⟩ = some (.int .i64 0) := R3.out.res.at (i := 1) rfl
                    have y1 : w3.frozen? ⟨w.heap.size, 1, none⟩ = false := R3.out.res.z 1
                    have x2 : w3.cell? ⟨w.heap.size, 2, none⟩ = some (.int .i64 0) := R3.out.res.at (i := 2) rfl
                    have y2 : w3.frozen? ⟨w.heap.size, 2, none⟩ = false := R3.out.res.z 2
                    have x3 : w3.cell? ⟨w.heap.size, 3, none⟩ = some (.int .i64 0) := R3.out.res.at (i := 3) rfl
                    have y3 : w3.frozen? ⟨w.heap.size, 3, none⟩ = false := R3.out.res.z 3
                    have x4 : w3.cell? ⟨w.heap.size, 4, none⟩ = some (.int .i64 0) := R3.out.res.at (i := 4) rfl
                    have y4 : w3.frozen? ⟨w.heap.size, 4, none⟩ = false := R3.out.res.z 4
                    go_wp2
                    have BR : Hid (Bx w.heap.size cfg0 45 ((((((w3).setCell ⟨w.heap.size, 0, none⟩ (.int .i64 0)).setCell ⟨w.heap.size, 1, none⟩ (.int .i64 0)).setCell ⟨w.heap.size, 2, none⟩ (.int .i64 0)).setCell ⟨w.heap.size, 3, none⟩ (.int .i64 0)).setCell ⟨w.heap.size, 4, none⟩ (.int .i64 0))) := (((((R3.out.res.set 0 _).set 1 _).set 2 _).set 3 _).set 4 _)
                    have OR : Hid (Ow w ((((((w3).setCell ⟨w.heap.size, 0, none⟩ (.int .i64 0)).setCell ⟨w.heap.size, 1, none⟩ (.int .i64 0)).setCell ⟨w.heap.size, 2, none⟩ (.int .i64 0)).setCell ⟨w.heap.size, 3, none⟩ (.int .i64 0)).setCell ⟨w.heap.size, 4, none⟩ (.int .i64 0))) := (((((R3.out.old.set (Nat.le_refl _) 0 _).set (Nat.le_refl _) 1 _).set (Nat.le_refl _) 2 _).set (Nat.le_refl _) 3 _).set (Nat.le_refl _) 4 _)
                    generalize hW9 : (((((w3).setCell ⟨w.heap.size, 0, none⟩ (.int .i64 0)).setCell ⟨w.heap.size, 1, none⟩ (.int .i64 0)).setCell ⟨w.heap.size, 2, none⟩ (.int .i64 0)).setCell ⟨w.heap.size, 3, none⟩ (.int .i64 0)).setCell ⟨w.heap.size, 4, none⟩ (.int .i64 0) = W9 at BR OR ⊢
                    exact cref_ret BR.out rfl rfl (by unfold CtPost; rw [HF.out.1, HF.out.2, HF.out.2, HF.out.2, HF.out.2, HF.out.2]; exact ⟨rfl, OR.out⟩)
              · obtain ⟨p0, hp0⟩ : ∃ p : ByteArray, p.data.toList = PL.getD 2 [] := ⟨⟨(PL.getD 2 []).toArray⟩, rfl⟩
                obtain ⟨p1, hp1⟩ : ∃ p : ByteArray, p.data.toList = PL.getD 3 [] := ⟨⟨(PL.getD 3 []).toArray⟩, rfl⟩
                have g0 := getD_at (L := PL) (i := 2) (d := []) (by rw [HN.out]; omega)
                have g1 := getD_at (L := PL) (i := 3) (d := []) (by rw [HN.out]; omega)
                have s0 : wr.cell? ⟨g, 2, none⟩ = some (.string p0) := by rw [HRp.out.str 2 _ g0.1, ← hp0, ba_mk]
                have s1 : wr.cell? ⟨g, 3, none⟩ = some (.string p1) := by rw [HRp.out.str 3 _ g1.1, ← hp1, ba_mk]
                have z1 : p1.size ≤ 9000 := by rw [← ba_len, hp1]; exact HSz.out _ g1.2
                obtain ⟨v, hv⟩ : ∃ v, intV (PL.getD 3 []) 0 1000000 = v := ⟨_, rfl⟩
                obtain ⟨m, hm⟩ : ∃ m, intE (PL.getD 3 []) 0 1000000 = m := ⟨_, rfl⟩
                have HP0 := Lib.hid hp0
                have HP1 := Lib.hid hp1
                have HV : Hid (intV p1.data.toList 0 1000000 = v) := by rw [Hid, hp1, hv]
                have HM : Hid (intE p1.data.toList 0 1000000 = m) := by rw [Hid, hp1, hm]
                have HVb : Hid (bigN PL 1 = v) := hv
                have hh := Hn.all (show Hn wr g 3 (.string p1) wr from ⟨Ow.refl _, HRp.out.hlt, s1⟩)
                have HS0 := Lib.hid s0
                have q1 : IntKind.i64.wrap 2 = 2 := by decide
                have q2 : IntKind.i64.wrap (2 + 1) = 3 := by decide
                have q3 : IntKind.i64.wrap 3 = 3 := by decide
                clear hp0 hp1 hv hm g0 g1 hk h5 s0 s1
                go_wp2_with fail
                (go_at_call 52; refine (crint_is p1 0 1000000 v m HV.out HM.out _ z1 ⟨by decide, by decide⟩).mono ?_; rintro e w2 ⟨rfl, hb2⟩)
                have O2 : Hid (Ow wr w2) := hb2
                have R2 := Lib.hid (HRp.out.then O2.out)
                have r0 : w2.cell? ⟨g, 2, none⟩ = some (.string p0) := (O2.out.cell (p := ⟨g, 2, none⟩) HRp.out.hlt).trans HS0.out
                have ix : ∀ W, (Instr.index 100 (.agg wordCells) (.int .i64 1)).run Tryz.prog W = .ok (.string ⟨#[111, 102]⟩) W := fun _ => by kernel_rfl
                have gg := Hn.all (show Hn w2 g 2 (.string p0) w2 from ⟨Ow.refl _, R2.out.hlt, r0⟩)
                clear hh hb2 r0
                go_wp2_with fail
                by_cases hw0 : PL.getD 2 [] = cfgWord 1
                · obtain rfl : p0 = ⟨#[111, 102]⟩ := ba_ext (by rw [HP0.out, hw0]; rfl)
                  by_cases hd : decimalB (PL.getD 3 []) = true
                  · have HOk1 : Hid (okUpto PL 2 = true) := by
                      show (okUpto PL 1 && (PL.getD 2 [] == cfgWord 1 && decimalB (PL.getD 3 []))) = true
                      rw [HOk.out, hw0, hd, beq_self_eq_true]; rfl
                    have HMm : Hid (m = if bigW PL 1 then 0 else 7) := by
                      rw [Hid, ← HM.out, HP1.out]
                      exact int_dec hd
                    have em : (m == 6) = false := by rw [beq_eq_false_iff_ne, HMm.out]; split <;> decide
                    clear hw0 hd
                    go_region_held3 (fun w' => Hn w2 g 2 (.string ⟨#[111, 102]⟩) w' ∧ w'.cell? ⟨g, 2, none⟩ = some (.string ⟨#[111, 102]⟩)) (first | assumption | exact Hn.all (by assumption) | exact (Hn.drew (by assumption)).all | exact (Hn.after (by assumption) (by assumption)).all) (first
                      | (go_at_call 50; refine (rwd_is _).mono ?_; rintro e w3 ⟨rfl, hb3⟩))
                    have O3 : Hid (Ow w2 w3) := Hn.fin (by assumption)
                    have R3 := Lib.hid (R2.out.then O3.out)
                    have a0 : w3.cell? ⟨B0, 1, none⟩ = some (.int .i64 0) := R3.out.arr.at (i := 1) rfl
                    have a1 := R3.out.arr.z 1
                    clear gg hb3
                    cases b0 with
                    | true =>
                      have HBn : Hid (true = !bigUpto PL 2) := big_out HB0.out (.inl ⟨rfl, rfl⟩) HMm.out
                      go_wp2_with fail
                      refine ⟨⟨2, true, by omega, rfl, rfl, HBn, HOk1, ?_⟩, by simp [intOf]⟩
                      exact rc_set (k := 1) (by omega) R3.out HVb.out
                    | false =>
                      have HBn : Hid ((m != 0) = !bigUpto PL 2) := big_out HB0.out (.inr ⟨rfl, rfl⟩) HMm.out
                      go_wp2_with fail
                      refine ⟨⟨2, m != 0, by omega, rfl, rfl, HBn, HOk1, ?_⟩, by simp [intOf]⟩
                      exact rc_set (k := 1) (by omega) R3.out HVb.out
                  · have HF := Lib.hid (ct_six (t := s.data.toList) (by rw [HPL.out]; exact ct_dec (k := 1) (by omega) (by simpa using hd)))
                    obtain rfl : m = 6 := by rw [← HM.out, HP1.out, intE, if_neg hd]
                    clear hw0 hd
                    go_region_held3 (fun w' => Hn w2 g 2 (.string ⟨#[111, 102]⟩) w' ∧ w'.cell? ⟨g, 2, none⟩ = some (.string ⟨#[111, 102]⟩)) (first | assumption | exact Hn.all (by assumption) | exact (Hn.drew (by assumption)).all | exact (Hn.after (by assumption) (by assumption)).all) (first
                      | (go_at_call 50; refine (rwd_is _).mono ?_; rintro e w3 ⟨rfl, hb3⟩))
                    have O3 : Hid (Ow w2 w3) := Hn.fin (by assumption)
                    have R3 := Lib.hid (R2.out.then O3.out)
                    clear gg hb3
                    have x0 : w3.cell? ⟨w.heap.size, 0, none⟩ = some (.int .i64 0) := R3.out.res.at (i := 0) rfl
                    have y0 : w3.frozen? ⟨w.heap.size, 0, none⟩ = false := R3.out.res.z 0
                    have x1 : w3.cell? ⟨w.heap.size, 1, none⟩ = some (.int .i64 0) := R3.out.res.at (i := 1) rfl
                    have y1 : w3.frozen? ⟨w.heap.size, 1, none⟩ = false := R3.out.res.z 1
                    have x2 : w3.cell? ⟨w.heap.size, 2, none⟩ = some (.int .i64 0) := R3.out.res.at (i := 2) rfl
                    have y2 : w3.frozen? ⟨w.heap.size, 2, none⟩ = false := R3.out.res.z 2
                    have x3 : w3.cell? ⟨w.heap.size, 3, none⟩ = some (.int .i64 0) := R3.out.res.at (i := 3) rfl
                    have y3 : w3.frozen? ⟨w.heap.size, 3, none⟩ = false := R3.out.res.z 3
                    have x4 : w3.cell? ⟨w.heap.size, 4, none⟩ = some (.int .i64 0) := R3.out.res.at (i := 4) rfl
                    have y4 : w3.frozen? ⟨w.heap.size, 4, none⟩ = false := R3.out.res.z 4
                    go_wp2
                    have BR : Hid (Bx w.heap.size cfg0 45 ((((((w3).setCell ⟨w.heap.size, 0, none⟩ (.int .i64 0)).setCell ⟨w.heap.size, 1, none⟩ (.int .i64 0)).setCell ⟨w.heap.size, 2, none⟩ (.int .i64 0)).setCell ⟨w.heap.size, 3, none⟩ (.int .i64 0)).setCell ⟨w.heap.size, 4, none⟩ (.int .i64 0))) := (((((R3.out.res.set 0 _).set 1 _).set 2 _).set 3 _).set 4 _)
                    have OR : Hid (Ow w ((((((w3).setCell ⟨w.heap.size, 0, none⟩ (.int .i64 0)).setCell ⟨w.heap.size, 1, none⟩ (.int .i64 0)).setCell ⟨w.heap.size, 2, none⟩ (.int .i64 0)).setCell ⟨w.heap.size, 3, none⟩ (.int .i64 0)).setCell ⟨w.heap.size, 4, none⟩ (.int .i64 0))) := (((((R3.out.old.set (Nat.le_refl _) 0 _).set (Nat.le_refl _) 1 _).set (Nat.le_refl _) 2 _).set (Nat.le_refl _) 3 _).set (Nat.le_refl _) 4 _)
                    generalize hW9 : (((((w3).setCell ⟨w.heap.size, 0, none⟩ (.int .i64 0)).setCell ⟨w.heap.size, 1, none⟩ (.int .i64 0)).setCell ⟨w.heap.size, 2, none⟩ (.int .i64 0)).setCell ⟨w.heap.size, 3, none⟩ (.int .i64 0)).setCell ⟨w.heap.size, 4, none⟩ (.int .i64 0) = W9 at BR OR ⊢
                    exact cref_ret BR.out rfl rfl (by unfold CtPost; rw [HF.out.1, HF.out.2, HF.out.2, HF.out.2, HF.out.2, HF.out.2]; exact ⟨rfl, OR.out⟩)
                · have HF := Lib.hid (ct_six (t := s.data.toList) (by rw [HPL.out]; exact ct_word (k := 1) (by omega) hw0))
                  have en : (p0.toList == [111, 102]) = false := by rw [ba_toList, beq_eq_false_iff_ne, HP0.out]; exact hw0
                  have en2 : (p0.toList == (⟨#[111, 102]⟩ : ByteArray).toList) = false := by rw [ba_toList ⟨#[111, 102]⟩]; exact en
                  have en3 : (p0.toList != [111, 102]) = true := by rw [bne, en]; rfl
                  clear hw0
                  have t0 := gg.2
                  clear gg
                  first
                    | go_region_with (go_at_call 50; refine (rwd_is _).mono ?_; rintro e w3 ⟨rfl, hb3⟩; have r9 : w3.cell? ⟨g, 2, none⟩ = some (.string p0) := (hb3.cell (p := ⟨g, 2, none⟩) (by simpa using R2.out.hlt)).trans t0)
                    | fail
                  all_goals
                    have O3 : Hid (Ow w2 w3) := ((Ow.refl _).drew).then hb3
                    have R3 := Lib.hid (R2.out.then O3.out)
                    clear hb3
                    have x0 : w3.cell? ⟨w.heap.size, 0, none⟩ = some (.int .i64 0) := R3.out.res.at (i := 0) rfl
                    have y0 : w3.frozen? ⟨w.heap.size, 0, none⟩ = false := R3.out.res.z 0
                    have x1 : w3.cell? ⟨w.heap.size, 1, none⟩ = some (.int .i64 0) := R3.out.res.at (i := 1) rfl
                    have y1 : w3.frozen? ⟨w.heap.size, 1, none⟩ = false := R3.out.res.z 1
                    have x2 : w3.cell? ⟨w.heap.size, 2, none⟩ = some (.int .i64 0) := R3.out.res.at (i := 2) rfl
                    have y2 : w3.frozen? ⟨w.heap.size, 2, none⟩ = false := R3.out.res.z 2
                    have x3 : w3.cell? ⟨w.heap.size, 3, none⟩ = some (.int .i64 0) := R3.out.res.at (i := 3) rfl
                    have y3 : w3.frozen? ⟨w.heap.size, 3, none⟩ = false := R3.out.res.z 3
                    have x4 : w3.cell? ⟨w.heap.size, 4, none⟩ = some (.int .i64 0) := R3.out.res.at (i := 4) rfl
                    have y4 : w3.frozen? ⟨w.heap.size, 4, none⟩ = false := R3.out.res.z 4
                    go_wp2
                    have BR : Hid (Bx w.heap.size cfg0 45 ((((((w3).setCell ⟨w.heap.size, 0, none⟩ (.int .i64 0)).setCell ⟨w.heap.size, 1, none⟩ (.int .i64 0)).setCell ⟨w.heap.size, 2, none⟩ (.int .i64 0)).setCell ⟨w.heap.size, 3, none⟩ (.int .i64 0)).setCell ⟨w.heap.size, 4, none⟩ (.int .i64 0))) := (((((R3.out.res.set 0 _).set 1 _).set 2 _).set 3 _).set 4 _)
                    have OR : Hid (Ow w ((((((w3).setCell ⟨w.heap.size, 0, none⟩ (.int .i64 0)).setCell ⟨w.heap.size, 1, none⟩ (.int .i64 0)).setCell ⟨w.heap.size, 2, none⟩ (.int .i64 0)).setCell ⟨w.heap.size, 3, none⟩ (.int .i64 0)).setCell ⟨w.heap.size, 4, none⟩ (.int .i64 0))) := (((((R3.out.old.set (Nat.le_refl _) 0 _).set (Nat.le_refl _) 1 _).set (Nat.le_refl _) 2 _).set (Nat.le_refl _) 3 _).set (Nat.le_refl _) 4 _)
                    generalize hW9 : (((((w3).setCell ⟨w.heap.size, 0, none⟩ (.int .i64 0)).setCell ⟨w.heap.size, 1, none⟩ (.int .i64 0)).setCell ⟨w.heap.size, 2, none⟩ (.int .i64 0)).setCell ⟨w.heap.size, 3, none⟩ (.int .i64 0)).setCell ⟨w.heap.size, 4, none⟩ (.int .i64 0) = W9 at BR OR ⊢
                    exact cref_ret BR.out rfl rfl (by unfold CtPost; rw [HF.out.1, HF.out.2, HF.out.2, HF.out.2, HF.out.2, HF.out.2]; exact ⟨rfl, OR.out⟩)
              · obtain ⟨p0, hp0⟩ : ∃ p : ByteArray, p.data.toList = PL.getD 4 [] := ⟨⟨(PL.getD 4 []).toArray⟩, rfl⟩
                obtain ⟨p1, hp1⟩ : ∃ p : ByteArray, p.data.toList = PL.getD 5 [] := ⟨⟨(PL.getD 5 []).toArray⟩, rfl⟩
                have g0 := getD_at (L := PL) (i := 4) (d := []) (by rw [HN.out]; omega)
                have g1 := getD_at (L := PL) (i := 5) (d := []) (by rw [HN.out]; omega)
                have s0 : wr.cell? ⟨g, 4, none⟩ = some (.string p0) := by rw [HRp.out.str 4 _ g0.1, ← hp0, ba_mk]
                have s1 : wr.cell? ⟨g, 5, none⟩ = some (.string p1) := by rw [HRp.out.str 5 _ g1.1, ← hp1, ba_mk]
                have z1 : p1.size ≤ 9000 := by rw [← ba_len, hp1]; exact HSz.out _ g1.2
                obtain ⟨v, hv⟩ : ∃ v, intV (PL.getD 5 []) 0 1000000 = v := ⟨_, rfl⟩
                obtain ⟨m, hm⟩ : ∃ m, intE (PL.getD 5 []) 0 1000000 = m := ⟨_, rfl⟩
                have HP0 := Lib.hid hp0
                have HP1 := Lib.hid hp1
                have HV : Hid (intV p1.data.toList 0 1000000 = v) := by rw [Hid, hp1, hv]
                have HM : Hid (intE p1.data.toList 0 1000000 = m) := by rw [Hid, hp1, hm]
                have HVb : Hid (bigN PL 2 = v) := hv
                have hh := Hn.all (show Hn wr g 5 (.string p1) wr from ⟨Ow.refl _, HRp.out.hlt, s1⟩)
                have HS0 := Lib.hid s0
                have q1 : IntKind.i64.wrap 4 = 4 := by decide
                have q2 : IntKind.i64.wrap (4 + 1) = 5 := by decide
                have q3 : IntKind.i64.wrap 5 = 5 := by decide
                clear hp0 hp1 hv hm g0 g1 hk h5 s0 s1
                go_wp2_with fail
                (go_at_call 52; refine (crint_is p1 0 1000000 v m HV.out HM.out _ z1 ⟨by decide, by decide⟩).mono ?_; rintro e w2 ⟨rfl, hb2⟩)
                have O2 : Hid (Ow wr w2) := hb2
                have R2 := Lib.hid (HRp.out.then O2.out)
                have r0 : w2.cell? ⟨g, 4, none⟩ = some (.string p0) := (O2.out.cell (p := ⟨g, 4, none⟩) HRp.out.hlt).trans HS0.out
                have ix : ∀ W, (Instr.index 100 (.agg wordCells) (.int .i64 2)).run Tryz.prog W = .ok (.string ⟨#[110, 117, 114, 115, 101, 114, 121]⟩) W := fun _ => by kernel_rfl
                have gg := Hn.all (show Hn w2 g 4 (.string p0) w2 from ⟨Ow.refl _, R2.out.hlt, r0⟩)
                clear hh hb2 r0
                go_wp2_with fail
                by_cases hw0 : PL.getD 4 [] = cfgWord 2
                · obtain rfl : p0 = ⟨#[110, 117, 114, 115, 101, 114, 121]⟩ := ba_ext (by rw [HP0.out, hw0]; rfl)
                  by_cases hd : decimalB (PL.getD 5 []) = true
                  · have HOk1 : Hid (okUpto PL 3 = true) := by
                      show (okUpto PL 2 && (PL.getD 4 [] == cfgWord 2 && decimalB (PL.getD 5 []))) = true
                      rw [HOk.out, hw0, hd, beq_self_eq_true]; rfl
                    have HMm : Hid (m = if bigW PL 2 then 0 else 7) := by
                      rw [Hid, ← HM.out, HP1.out]
                      exact int_dec hd
                    have em : (m == 6) = false := by rw [beq_eq_false_iff_ne, HMm.out]; split <;> decide
                    clear hw0 hd
                    go_region_held3 (fun w' => Hn w2 g 4 (.string ⟨#[110, 117, 114, 115, 101, 114, 121]⟩) w' ∧ w'.cell? ⟨g, 4, none⟩ = some (.string ⟨#[110, 117, 114, 115, 101, 114, 121]⟩)) (first | assumption | exact Hn.all (by assumption) | exact (Hn.drew (by assumption)).all | exact (Hn.after (by assumption) (by assumption)).all) (first
                      | (go_at_call 50; refine (rwd_is _).mono ?_; rintro e w3 ⟨rfl, hb3⟩))
                    have O3 : Hid (Ow w2 w3) := Hn.fin (by assumption)
                    have R3 := Lib.hid (R2.out.then O3.out)
                    have a0 : w3.cell? ⟨B0, 2, none⟩ = some (.int .i64 0) := R3.out.arr.at (i := 2) rfl
                    have a1 := R3.out.arr.z 2
                    clear gg hb3
                    cases b0 with
                    | true =>
                      have HBn : Hid (true = !bigUpto PL 3) := big_out HB0.out (.inl ⟨rfl, rfl⟩) HMm.out
                      go_wp2_with fail
                      refine ⟨⟨3, true, by omega, rfl, rfl, HBn, HOk1, ?_⟩, by simp [intOf]⟩
                      exact rc_set (k := 2) (by omega) R3.out HVb.out
                    | false =>
                      have HBn : Hid ((m != 0) = !bigUpto PL 3) := big_out HB0.out (.inr ⟨rfl, rfl⟩) HMm.out
                      go_wp2_with fail
                      refine ⟨⟨3, m != 0, by omega, rfl, rfl, HBn, HOk1, ?_⟩, by simp [intOf]⟩
                      exact rc_set (k := 2) (by omega) R3.out HVb.out
                  · have HF := Lib.hid (ct_six (t := s.data.toList) (by rw [HPL.out]; exact ct_dec (k := 2) (by omega) (by simpa using hd)))
                    obtain rfl : m = 6 := by rw [← HM.out, HP1.out, intE, if_neg hd]
                    clear hw0 hd
                    go_region_held3 (fun w' => Hn w2 g 4 (.string ⟨#[110, 117, 114, 115, 101, 114, 121]⟩) w' ∧ w'.cell? ⟨g, 4, none⟩ = some (.string ⟨#[110, 117, 114, 115, 101, 114, 121]⟩)) (first | assumption | exact Hn.all (by assumption) | exact (Hn.drew (by assumption)).all | exact (Hn.after (by assumption) (by assumption)).all) (first
                      | (go_at_call 50; refine (rwd_is _).mono ?_; rintro e w3 ⟨rfl, hb3⟩))
                    have O3 : Hid (Ow w2 w3) := Hn.fin (by assumption)
                    have R3 := Lib.hid (R2.out.then O3.out)
                    clear gg hb3
                    have x0 : w3.cell? ⟨w.heap.size, 0, none⟩ = some (.int .i64 0) := R3.out.res.at (i := 0) rfl
                    have y0 : w3.frozen? ⟨w.heap.size, 0, none⟩ = false := R3.out.res.z 0
                    have x1 : w3.cell? ⟨w.heap.size, 1, none⟩ = some (.int .i64 0) := R3.out.res.at (i := 1) rfl
                    have y1 : w3.frozen? ⟨w.heap.size, 1, none⟩ = false := R3.out.res.z 1
                    have x2 : w3.cell? ⟨w.heap.size, 2, none⟩ = some (.int .i64 0) := R3.out.res.at (i := 2) rfl
                    have y2 : w3.frozen? ⟨w.heap.size, 2, none⟩ = false := R3.out.res.z 2
                    have x3 : w3.cell? ⟨w.heap.size, 3, none⟩ = some (.int .i64 0) := R3.out.res.at (i := 3) rfl
                    have y3 : w3.frozen? ⟨w.heap.size, 3, none⟩ = false := R3.out.res.z 3
                    have x4 : w3.cell? ⟨w.heap.size, 4, none⟩ = some (.int .i64 0) := R3.out.res.at (i := 4) rfl
                    have y4 : w3.frozen? ⟨w.heap.size, 4, none⟩ = false := R3.out.res.z 4
                    go_wp2
                    have BR : Hid (Bx w.heap.size cfg0 45 ((((((w3).setCell ⟨w.heap.size, 0, none⟩ (.int .i64 0)).setCell ⟨w.heap.size, 1, none⟩ (.int .i64 0)).setCell ⟨w.heap.size, 2, none⟩ (.int .i64 0)).setCell ⟨w.heap.size, 3, none⟩ (.int .i64 0)).setCell ⟨w.heap.size, 4, none⟩ (.int .i64 0))) := (((((R3.out.res.set 0 _).set 1 _).set 2 _).set 3 _).set 4 _)
                    have OR : Hid (Ow w ((((((w3).setCell ⟨w.heap.size, 0, none⟩ (.int .i64 0)).setCell ⟨w.heap.size, 1, none⟩ (.int .i64 0)).setCell ⟨w.heap.size, 2, none⟩ (.int .i64 0)).setCell ⟨w.heap.size, 3, none⟩ (.int .i64 0)).setCell ⟨w.heap.size, 4, none⟩ (.int .i64 0))) := (((((R3.out.old.set (Nat.le_refl _) 0 _).set (Nat.le_refl _) 1 _).set (Nat.le_refl _) 2 _).set (Nat.le_refl _) 3 _).set (Nat.le_refl _) 4 _)
                    generalize hW9 : (((((w3).setCell ⟨w.heap.size, 0, none⟩ (.int .i64 0)).setCell ⟨w.heap.size, 1, none⟩ (.int .i64 0)).setCell ⟨w.heap.size, 2, none⟩ (.int .i64 0)).setCell ⟨w.heap.size, 3, none⟩ (.int .i64 0)).setCell ⟨w.heap.size, 4, none⟩ (.int .i64 0) = W9 at BR OR ⊢
                    exact cref_ret BR.out rfl rfl (by unfold CtPost; rw [HF.out.1, HF.out.2, HF.out.2, HF.out.2, HF.out.2, HF.out.2]; exact ⟨rfl, OR.out⟩)
                · have HF := Lib.hid (ct_six (t := s.data.toList) (by rw [HPL.out]; exact ct_word (k := 2) (by omega) hw0))
                  have en : (p0.toList == [110, 117, 114, 115, 101, 114, 121]) = false := by rw [ba_toList, beq_eq_false_iff_ne, HP0.out]; exact hw0
                  have en2 : (p0.toList == (⟨#[110, 117, 114, 115, 101, 114, 121]⟩ : ByteArray).toList) = false := by rw [ba_toList ⟨#[110, 117, 114, 115, 101, 114, 121]⟩]; exact en
                  have en3 : (p0.toList != [110, 117, 114, 115, 101, 114, 121]) = true := by rw [bne, en]; rfl
                  clear hw0
                  have t0 := gg.2
                  clear gg
                  first
                    | go_region_with (go_at_call 50; refine (rwd_is _).mono ?_; rintro e w3 ⟨rfl, hb3⟩; have r9 : w3.cell? ⟨g, 4, none⟩ = some (.string p0) := (hb3.cell (p := ⟨g, 4, none⟩) (by simpa using R2.out.hlt)).trans t0)
                    | fail
                  all_goals
                    have O3 : Hid (Ow w2 w3) := ((Ow.refl _).drew).then hb3
                    have R3 := Lib.hid (R2.out.then O3.out)
                    clear hb3
                    have x0 : w3.cell? ⟨w.heap.size, 0, none⟩ = some (.int .i64 0) := R3.out.res.at (i := 0) rfl
                    have y0 : w3.frozen? ⟨w.heap.size, 0, none⟩ = false := R3.out.res.z 0
                    have x1 : w3.cell? ⟨w.heap.size, 1, none⟩ = some (.int .i64 0) := R3.out.res.at (i := 1) rfl
                    have y1 : w3.frozen? ⟨w.heap.size, 1, none⟩ = false := R3.out.res.z 1
                    have x2 : w3.cell? ⟨w.heap.size, 2, none⟩ = some (.int .i64 0) := R3.out.res.at (i := 2) rfl
                    have y2 : w3.frozen? ⟨w.heap.size, 2, none⟩ = false := R3.out.res.z 2
                    have x3 : w3.cell? ⟨w.heap.size, 3, none⟩ = some (.int .i64 0) := R3.out.res.at (i := 3) rfl
                    have y3 : w3.frozen? ⟨w.heap.size, 3, none⟩ = false := R3.out.res.z 3
                    have x4 : w3.cell? ⟨w.heap.size, 4, none⟩ = some (.int .i64 0) := R3.out.res.at (i := 4) rfl
                    have y4 : w3.frozen? ⟨w.heap.size, 4, none⟩ = false := R3.out.res.z 4
                    go_wp2
                    have BR : Hid (Bx w.heap.size cfg0 45 ((((((w3).setCell ⟨w.heap.size, 0, none⟩ (.int .i64 0)).setCell ⟨w.heap.size, 1, none⟩ (.int .i64 0)).setCell ⟨w.heap.size, 2, none⟩ (.int .i64 0)).setCell ⟨w.heap.size, 3, none⟩ (.int .i64 0)).setCell ⟨w.heap.size, 4, none⟩ (.int .i64 0))) := (((((R3.out.res.set 0 _).set 1 _).set 2 _).set 3 _).set 4 _)
                    have OR : Hid (Ow w ((((((w3).setCell ⟨w.heap.size, 0, none⟩ (.int .i64 0)).setCell ⟨w.heap.size, 1, none⟩ (.int .i64 0)).setCell ⟨w.heap.size, 2, none⟩ (.int .i64 0)).setCell ⟨w.heap.size, 3, none⟩ (.int .i64 0)).setCell ⟨w.heap.size, 4, none⟩ (.int .i64 0))) := (((((R3.out.old.set (Nat.le_refl _) 0 _).set (Nat.le_refl _) 1 _).set (Nat.le_refl _) 2 _).set (Nat.le_refl _) 3 _).set (Nat.le_refl _) 4 _)
                    generalize hW9 : (((((w3).setCell ⟨w.heap.size, 0, none⟩ (.int .i64 0)).setCell ⟨w.heap.size, 1, none⟩ (.int .i64 0)).setCell ⟨w.heap.size, 2, none⟩ (.int .i64 0)).setCell ⟨w.heap.size, 3, none⟩ (.int .i64 0)).setCell ⟨w.heap.size, 4, none⟩ (.int .i64 0) = W9 at BR OR ⊢
                    exact cref_ret BR.out rfl rfl (by unfold CtPost; rw [HF.out.1, HF.out.2, HF.out.2, HF.out.2, HF.out.2, HF.out.2]; exact ⟨rfl, OR.out⟩)
              · obtain ⟨p0, hp0⟩ : ∃ p : ByteArray, p.data.toList = PL.getD 6 [] := ⟨⟨(PL.getD 6 []).toArray⟩, rfl⟩
                obtain ⟨p1, hp1⟩ : ∃ p : ByteArray, p.data.toList = PL.getD 7 [] := ⟨⟨(PL.getD 7 []).toArray⟩, rfl⟩
                have g0 := getD_at (L := PL) (i := 6) (d := []) (by rw [HN.out]; omega)
                have g1 := getD_at (L := PL) (i := 7) (d := []) (by rw [HN.out]; omega)
                have s0 : wr.cell? ⟨g, 6, none⟩ = some (.string p0) := by rw [HRp.out.str 6 _ g0.1, ← hp0, ba_mk]
                have s1 : wr.cell? ⟨g, 7, none⟩ = some (.string p1) := by rw [HRp.out.str 7 _ g1.1, ← hp1, ba_mk]
                have z1 : p1.size ≤ 9000 := by rw [← ba_len, hp1]; exact HSz.out _ g1.2
                obtain ⟨v, hv⟩ : ∃ v, intV (PL.getD 7 []) 0 1000000 = v := ⟨_, rfl⟩
                obtain ⟨m, hm⟩ : ∃ m, intE (PL.getD 7 []) 0 1000000 = m := ⟨_, rfl⟩
                have HP0 := Lib.hid hp0
                have HP1 := Lib.hid hp1
                have HV : Hid (intV p1.data.toList 0 1000000 = v) := by rw [Hid, hp1, hv]
                have HM : Hid (intE p1.data.toList 0 1000000 = m) := by rw [Hid, hp1, hm]
                have HVb : Hid (bigN PL 3 = v) := hv
                have hh := Hn.all (show Hn wr g 7 (.string p1) wr from ⟨Ow.refl _, HRp.out.hlt, s1⟩)
                have HS0 := Lib.hid s0
                have q1 : IntKind.i64.wrap 6 = 6 := by decide
                have q2 : IntKind.i64.wrap (6 + 1) = 7 := by decide
                have q3 : IntKind.i64.wrap 7 = 7 := by decide
                clear hp0 hp1 hv hm g0 g1 hk h5 s0 s1
                go_wp2_with fail
                (go_at_call 52; refine (crint_is p1 0 1000000 v m HV.out HM.out _ z1 ⟨by decide, by decide⟩).mono ?_; rintro e w2 ⟨rfl, hb2⟩)
                have O2 : Hid (Ow wr w2) := hb2
                have R2 := Lib.hid (HRp.out.then O2.out)
                have r0 : w2.cell? ⟨g, 6, none⟩ = some (.string p0) := (O2.out.cell (p := ⟨g, 6, none⟩) HRp.out.hlt).trans HS0.out
                have ix : ∀ W, (Instr.index 100 (.agg wordCells) (.int .i64 3)).run Tryz.prog W = .ok (.string ⟨#[114, 101, 103, 105, 115, 116, 101, 114, 115]⟩) W := fun _ => by kernel_rfl
                have gg := Hn.all (show Hn w2 g 6 (.string p0) w2 from ⟨Ow.refl _, R2.out.hlt, r0⟩)
                clear hh hb2 r0
                go_wp2_with fail
                by_cases hw0 : PL.getD 6 [] = cfgWord 3
                · obtain rfl : p0 = ⟨#[114, 101, 103, 105, 115, 116, 101, 114, 115]⟩ := ba_ext (by rw [HP0.out, hw0]; rfl)
                  by_cases hd : decimalB (PL.getD 7 []) = true
                  · have HOk1 : Hid (okUpto PL 4 = true) := by
                      show (okUpto PL 3 && (PL.getD 6 [] == cfgWord 3 && decimalB (PL.getD 7 []))) = true
                      rw [HOk.out, hw0, hd, beq_self_eq_true]; rfl
                    have HMm : Hid (m = if bigW PL 3 then 0 else 7) := by
                      rw [Hid, ← HM.out, HP1.out]
                      exact int_dec hd
                    have em : (m == 6) = false := by rw [beq_eq_false_iff_ne, HMm.out]; split <;> decide
                    clear hw0 hd
                    go_region_held3 (fun w' => Hn w2 g 6 (.string ⟨#[114, 101, 103, 105, 115, 116, 101, 114, 115]⟩) w' ∧ w'.cell? ⟨g, 6, none⟩ = some (.string ⟨#[114, 101, 103, 105, 115, 116, 101, 114, 115]⟩)) (first | assumption | exact Hn.all (by assumption) | exact (Hn.drew (by assumption)).all | exact (Hn.after (by assumption) (by assumption)).all) (first
                      | (go_at_call 50; refine (rwd_is _).mono ?_; rintro e w3 ⟨rfl, hb3⟩))
                    have O3 : Hid (Ow w2 w3) := Hn.fin (by assumption)
                    have R3 := Lib.hid (R2.out.then O3.out)
                    have a0 : w3.cell? ⟨B0, 3, none⟩ = some (.int .i64 0) := R3.out.arr.at (i := 3) rfl
                    have a1 := R3.out.arr.z 3
                    clear gg hb3
                    cases b0 with
                    | true =>
                      have HBn : Hid (true = !bigUpto PL 4) := big_out HB0.out (.inl ⟨rfl, rfl⟩) HMm.out
                      go_wp2_with fail
                      refine ⟨⟨4, true, by omega, rfl, rfl, HBn, HOk1, ?_⟩, by simp [intOf]⟩
                      exact rc_set (k := 3) (by omega) R3.out HVb.out
                    | false =>
                      have HBn : Hid ((m != 0) = !bigUpto PL 4) := big_out HB0.out (.inr ⟨rfl, rfl⟩) HMm.out
                      go_wp2_with fail
                      refine ⟨⟨4, m != 0, by omega, rfl, rfl, HBn, HOk1, ?_⟩, by simp [intOf]⟩
                      exact rc_set (k := 3) (by omega) R3.out HVb.out
                  · have HF := Lib.hid (ct_six (t := s.data.toList) (by rw [HPL.out]; exact ct_dec (k := 3) (by omega) (by simpa using hd)))
                    obtain rfl : m = 6 := by rw [← HM.out, HP1.out, intE, if_neg hd]
                    clear hw0 hd
                    go_region_held3 (fun w' => Hn w2 g 6 (.string ⟨#[114, 101, 103, 105, 115, 116, 101, 114, 115]⟩) w' ∧ w'.cell? ⟨g, 6, none⟩ = some (.string ⟨#[114, 101, 103, 105, 115, 116, 101, 114, 115]⟩)) (first | assumption | exact Hn.all (by assumption) | exact (Hn.drew (by assumption)).all | exact (Hn.after (by assumption) (by assumption)).all) (first
                      | (go_at_call 50; refine (rwd_is _).mono ?_; rintro e w3 ⟨rfl, hb3⟩))
                    have O3 : Hid (Ow w2 w3) := Hn.fin (by assumption)
                    have R3 := Lib.hid (R2.out.then O3.out)
                    clear gg hb3
                    have x0 : w3.cell? ⟨w.heap.size, 0, none⟩ = some (.int .i64 0) := R3.out.res.at (i := 0) rfl
                    have y0 : w3.frozen? ⟨w.heap.size, 0, none⟩ = false := R3.out.res.z 0
                    have x1 : w3.cell? ⟨w.heap.size, 1, none⟩ = some (.int .i64 0) := R3.out.res.at (i := 1) rfl
                    have y1 : w3.frozen? ⟨w.heap.size, 1, none⟩ = false := R3.out.res.z 1
                    have x2 : w3.cell? ⟨w.heap.size, 2, none⟩ = some (.int .i64 0) := R3.out.res.at (i := 2) rfl
                    have y2 : w3.frozen? ⟨w.heap.size, 2, none⟩ = false := R3.out.res.z 2
                    have x3 : w3.cell? ⟨w.heap.size, 3, none⟩ = some (.int .i64 0) := R3.out.res.at (i := 3) rfl
                    have y3 : w3.frozen? ⟨w.heap.size, 3, none⟩ = false := R3.out.res.z 3
                    have x4 : w3.cell? ⟨w.heap.size, 4, none⟩ = some (.int .i64 0) := R3.out.res.at (i := 4) rfl
                    have y4 : w3.frozen? ⟨w.heap.size, 4, none⟩ = false := R3.out.res.z 4
                    go_wp2
                    have BR : Hid (Bx w.heap.size cfg0 45 ((((((w3).setCell ⟨w.heap.size, 0, none⟩ (.int .i64 0)).setCell ⟨w.heap.size, 1, none⟩ (.int .i64 0)).setCell ⟨w.heap.size, 2, none⟩ (.int .i64 0)).setCell ⟨w.heap.size, 3, none⟩ (.int .i64 0)).setCell ⟨w.heap.size, 4, none⟩ (.int .i64 0))) := (((((R3.out.res.set 0 _).set 1 _).set 2 _).set 3 _).set 4 _)
                    have OR : Hid (Ow w ((((((w3).setCell ⟨w.heap.size, 0, none⟩ (.int .i64 0)).setCell ⟨w.heap.size, 1, none⟩ (.int .i64 0)).setCell ⟨w.heap.size, 2, none⟩ (.int .i64 0)).setCell ⟨w.heap.size, 3, none⟩ (.int .i64 0)).setCell ⟨w.heap.size, 4, none⟩ (.int .i64 0))) := (((((R3.out.old.set (Nat.le_refl _) 0 _).set (Nat.le_refl _) 1 _).set (Nat.le_refl _) 2 _).set (Nat.le_refl _) 3 _).set (Nat.le_refl _) 4 _)
                    generalize hW9 : (((((w3).setCell ⟨w.heap.size, 0, none⟩ (.int .i64 0)).setCell ⟨w.heap.size, 1, none⟩ (.int .i64 0)).setCell ⟨w.heap.size, 2, none⟩ (.int .i64 0)).setCell ⟨w.heap.size, 3, none⟩ (.int .i64 0)).setCell ⟨w.heap.size, 4, none⟩ (.int .i64 0) = W9 at BR OR ⊢
                    exact cref_ret BR.out rfl rfl (by unfold CtPost; rw [HF.out.1, HF.out.2, HF.out.2, HF.out.2, HF.out.2, HF.out.2]; exact ⟨rfl, OR.out⟩)
                · have HF := Lib.hid (ct_six (t := s.data.toList) (by rw [HPL.out]; exact ct_word (k := 3) (by omega) hw0))
                  have en : (p0.toList == [114, 101, 103, 105, 115, 116, 101, 114, 115]) = false := by rw [ba_toList, beq_eq_false_iff_ne, HP0.out]; exact hw0
                  have en2 : (p0.toList == (⟨#[114, 101, 103, 105, 115, 116, 101, 114, 115]⟩ : ByteArray).toList) = false := by rw [ba_toList ⟨#[114, 101, 103, 105, 115, 116, 101, 114, 115]⟩]; exact en
                  have en3 : (p0.toList != [114, 101, 103, 105, 115, 116, 101, 114, 115]) = true := by rw [bne, en]; rfl
                  clear hw0
                  have t0 := gg.2
                  clear gg
                  first
                    | go_region_with (go_at_call 50; refine (rwd_is _).mono ?_; rintro e w3 ⟨rfl, hb3⟩; have r9 : w3.cell? ⟨g, 6, none⟩ = some (.string p0) := (hb3.cell (p := ⟨g, 6, none⟩) (by simpa using R2.out.hlt)).trans t0)
                    | fail
                  all_goals
                    have O3 : Hid (Ow w2 w3) := ((Ow.refl _).drew).then hb3
                    have R3 := Lib.hid (R2.out.then O3.out)
                    clear hb3
                    have x0 : w3.cell? ⟨w.heap.size, 0, none⟩ = some (.int .i64 0) := R3.out.res.at (i := 0) rfl
                    have y0 : w3.frozen? ⟨w.heap.size, 0, none⟩ = false := R3.out.res.z 0
                    have x1 : w3.cell? ⟨w.heap.size, 1, none⟩ = some (.int .i64 0) := R3.out.res.at (i := 1) rfl
                    have y1 : w3.frozen? ⟨w.heap.size, 1, none⟩ = false := R3.out.res.z 1
                    have x2 : w3.cell? ⟨w.heap.size, 2, none⟩ = some (.int .i64 0) := R3.out.res.at (i := 2) rfl
                    have y2 : w3.frozen? ⟨w.heap.size, 2, none⟩ = false := R3.out.res.z 2
                    have x3 : w3.cell? ⟨w.heap.size, 3, none⟩ = some (.int .i64 0) := R3.out.res.at (i := 3) rfl
                    have y3 : w3.frozen? ⟨w.heap.size, 3, none⟩ = false := R3.out.res.z 3
                    have x4 : w3.cell? ⟨w.heap.size, 4, none⟩ = some (.int .i64 0) := R3.out.res.at (i := 4) rfl
                    have y4 : w3.frozen? ⟨w.heap.size, 4, none⟩ = false := R3.out.res.z 4
                    go_wp2
                    have BR : Hid (Bx w.heap.size cfg0 45 ((((((w3).setCell ⟨w.heap.size, 0, none⟩ (.int .i64 0)).setCell ⟨w.heap.size, 1, none⟩ (.int .i64 0)).setCell ⟨w.heap.size, 2, none⟩ (.int .i64 0)).setCell ⟨w.heap.size, 3, none⟩ (.int .i64 0)).setCell ⟨w.heap.size, 4, none⟩ (.int .i64 0))) := (((((R3.out.res.set 0 _).set 1 _).set 2 _).set 3 _).set 4 _)
                    have OR : Hid (Ow w ((((((w3).setCell ⟨w.heap.size, 0, none⟩ (.int .i64 0)).setCell ⟨w.heap.size, 1, none⟩ (.int .i64 0)).setCell ⟨w.heap.size, 2, none⟩ (.int .i64 0)).setCell ⟨w.heap.size, 3, none⟩ (.int .i64 0)).setCell ⟨w.heap.size, 4, none⟩ (.int .i64 0))) := (((((R3.out.old.set (Nat.le_refl _) 0 _).set (Nat.le_refl _) 1 _).set (Nat.le_refl _) 2 _).set (Nat.le_refl _) 3 _).set (Nat.le_refl _) 4 _)
                    generalize hW9 : (((((w3).setCell ⟨w.heap.size, 0, none⟩ (.int .i64 0)).setCell ⟨w.heap.size, 1, none⟩ (.int .i64 0)).setCell ⟨w.heap.size, 2, none⟩ (.int .i64 0)).setCell ⟨w.heap.size, 3, none⟩ (.int .i64 0)).setCell ⟨w.heap.size, 4, none⟩ (.int .i64 0) = W9 at BR OR ⊢
                    exact cref_ret BR.out rfl rfl (by unfold CtPost; rw [HF.out.1, HF.out.2, HF.out.2, HF.out.2, HF.out.2, HF.out.2]; exact ⟨rfl, OR.out⟩)
              · obtain ⟨p0, hp0⟩ : ∃ p : ByteArray, p.data.toList = PL.getD 8 [] := ⟨⟨(PL.getD 8 []).toArray⟩, rfl⟩
                obtain ⟨p1, hp1⟩ : ∃ p : ByteArray, p.data.toList = PL.getD 9 [] := ⟨⟨(PL.getD 9 []).toArray⟩, rfl⟩
                have g0 := getD_at (L := PL) (i := 8) (d := []) (by rw [HN.out]; omega)
                have g1 := getD_at (L := PL) (i := 9) (d := []) (by rw [HN.out]; omega)
                have s0 : wr.cell? ⟨g, 8, none⟩ = some (.string p0) := by rw [HRp.out.str 8 _ g0.1, ← hp0, ba_mk]
                have s1 : wr.cell? ⟨g, 9, none⟩ = some (.string p1) := by rw [HRp.out.str 9 _ g1.1, ← hp1, ba_mk]
                have z1 : p1.size ≤ 9000 := by rw [← ba_len, hp1]; exact HSz.out _ g1.2
                obtain ⟨v, hv⟩ : ∃ v, intV (PL.getD 9 []) 0 1000000 = v := ⟨_, rfl⟩
                obtain ⟨m, hm⟩ : ∃ m, intE (PL.getD 9 []) 0 1000000 = m := ⟨_, rfl⟩
                have HP0 := Lib.hid hp0
                have HP1 := Lib.hid hp1
                have HV : Hid (intV p1.data.toList 0 1000000 = v) := by rw [Hid, hp1, hv]
                have HM : Hid (intE p1.data.toList 0 1000000 = m) := by rw [Hid, hp1, hm]
                have HVb : Hid (bigN PL 4 = v) := hv
                have hh := Hn.all (show Hn wr g 9 (.string p1) wr from ⟨Ow.refl _, HRp.out.hlt, s1⟩)
                have HS0 := Lib.hid s0
                have q1 : IntKind.i64.wrap 8 = 8 := by decide
                have q2 : IntKind.i64.wrap (8 + 1) = 9 := by decide
                have q3 : IntKind.i64.wrap 9 = 9 := by decide
                clear hp0 hp1 hv hm g0 g1 hk h5 s0 s1
                go_wp2_with fail
                (go_at_call 52; refine (crint_is p1 0 1000000 v m HV.out HM.out _ z1 ⟨by decide, by decide⟩).mono ?_; rintro e w2 ⟨rfl, hb2⟩)
                have O2 : Hid (Ow wr w2) := hb2
                have R2 := Lib.hid (HRp.out.then O2.out)
                have r0 : w2.cell? ⟨g, 8, none⟩ = some (.string p0) := (O2.out.cell (p := ⟨g, 8, none⟩) HRp.out.hlt).trans HS0.out
                have ix : ∀ W, (Instr.index 100 (.agg wordCells) (.int .i64 4)).run Tryz.prog W = .ok (.string ⟨#[112, 111, 112, 117, 108, 97, 114]⟩) W := fun _ => by kernel_rfl
                have gg := Hn.all (show Hn w2 g 8 (.string p0) w2 from ⟨Ow.refl _, R2.out.hlt, r0⟩)
                clear hh hb2 r0
                go_wp2_with fail
                by_cases hw0 : PL.getD 8 [] = cfgWord 4
                · obtain rfl : p0 = ⟨#[112, 111, 112, 117, 108, 97, 114]⟩ := ba_ext (by rw [HP0.out, hw0]; rfl)
                  by_cases hd : decimalB (PL.getD 9 []) = true
                  · have HOk1 : Hid (okUpto PL 5 = true) := by
                      show (okUpto PL 4 && (PL.getD 8 [] == cfgWord 4 && decimalB (PL.getD 9 []))) = true
                      rw [HOk.out, hw0, hd, beq_self_eq_true]; rfl
                    have HMm : Hid (m = if bigW PL 4 then 0 else 7) := by
                      rw [Hid, ← HM.out, HP1.out]
                      exact int_dec hd
                    have em : (m == 6) = false := by rw [beq_eq_false_iff_ne, HMm.out]; split <;> decide
                    clear hw0 hd
                    go_region_held3 (fun w' => Hn w2 g 8 (.string ⟨#[112, 111, 112, 117, 108, 97, 114]⟩) w' ∧ w'.cell? ⟨g, 8, none⟩ = some (.string ⟨#[112, 111, 112, 117, 108, 97, 114]⟩)) (first | assumption | exact Hn.all (by assumption) | exact (Hn.drew (by assumption)).all | exact (Hn.after (by assumption) (by assumption)).all) (first
                      | (go_at_call 50; refine (rwd_is _).mono ?_; rintro e w3 ⟨rfl, hb3⟩))
                    have O3 : Hid (Ow w2 w3) := Hn.fin (by assumption)
                    have R3 := Lib.hid (R2.out.then O3.out)
                    have a0 : w3.cell? ⟨B0, 4, none⟩ = some (.int .i64 0) := R3.out.arr.at (i := 4) rfl
                    have a1 := R3.out.arr.z 4
                    clear gg hb3
                    cases b0 with
                    | true =>
                      have HBn : Hid (true = !bigUpto PL 5) := big_out HB0.out (.inl ⟨rfl, rfl⟩) HMm.out
                      go_wp2_with fail
                      refine ⟨⟨5, true, by omega, rfl, rfl, HBn, HOk1, ?_⟩, by simp [intOf]⟩
                      exact rc_set (k := 4) (by omega) R3.out HVb.out
                    | false =>
                      have HBn : Hid ((m != 0) = !bigUpto PL 5) := big_out HB0.out (.inr ⟨rfl, rfl⟩) HMm.out
                      go_wp2_with fail
                      refine ⟨⟨5, m != 0, by omega, rfl, rfl, HBn, HOk1, ?_⟩, by simp [intOf]⟩
                      exact rc_set (k := 4) (by omega) R3.out HVb.out
                  · have HF := Lib.hid (ct_six (t := s.data.toList) (by rw [HPL.out]; exact ct_dec (k := 4) (by omega) (by simpa using hd)))
                    obtain rfl : m = 6 := by rw [← HM.out, HP1.out, intE, if_neg hd]
                    clear hw0 hd
                    go_region_held3 (fun w' => Hn w2 g 8 (.string ⟨#[112, 111, 112, 117, 108, 97, 114]⟩) w' ∧ w'.cell? ⟨g, 8, none⟩ = some (.string ⟨#[112, 111, 112, 117, 108, 97, 114]⟩)) (first | assumption | exact Hn.all (by assumption) | exact (Hn.drew (by assumption)).all | exact (Hn.after (by assumption) (by assumption)).all) (first
                      | (go_at_call 50; refine (rwd_is _).mono ?_; rintro e w3 ⟨rfl, hb3⟩))
                    have O3 : Hid (Ow w2 w3) := Hn.fin (by assumption)
                    have R3 := Lib.hid (R2.out.then O3.out)
                    clear gg hb3
                    have x0 : w3.cell? ⟨w.heap.size, 0, none⟩ = some (.int .i64 0) := R3.out.res.at (i := 0) rfl
                    have y0 : w3.frozen? ⟨w.heap.size, 0, none⟩ = false := R3.out.res.z 0
                    have x1 : w3.cell? ⟨w.heap.size, 1, none⟩ = some (.int .i64 0) := R3.out.res.at (i := 1) rfl
                    have y1 : w3.frozen? ⟨w.heap.size, 1, none⟩ = false := R3.out.res.z 1
                    have x2 : w3.cell? ⟨w.heap.size, 2, none⟩ = some (.int .i64 0) := R3.out.res.at (i := 2) rfl
                    have y2 : w3.frozen? ⟨w.heap.size, 2, none⟩ = false := R3.out.res.z 2
                    have x3 : w3.cell? ⟨w.heap.size, 3, none⟩ = some (.int .i64 0) := R3.out.res.at (i := 3) rfl
                    have y3 : w3.frozen? ⟨w.heap.size, 3, none⟩ = false := R3.out.res.z 3
                    have x4 : w3.cell? ⟨w.heap.size, 4, none⟩ = some (.int .i64 0) := R3.out.res.at (i := 4) rfl
                    have y4 : w3.frozen? ⟨w.heap.size, 4, none⟩ = false := R3.out.res.z 4
                    go_wp2
                    have BR : Hid (Bx w.heap.size cfg0 45 ((((((w3).setCell ⟨w.heap.size, 0, none⟩ (.int .i64 0)).setCell ⟨w.heap.size, 1, none⟩ (.int .i64 0)).setCell ⟨w.heap.size, 2, none⟩ (.int .i64 0)).setCell ⟨w.heap.size, 3, none⟩ (.int .i64 0)).setCell ⟨w.heap.size, 4, none⟩ (.int .i64 0))) := (((((R3.out.res.set 0 _).set 1 _).set 2 _).set 3 _).set 4 _)
                    have OR : Hid (Ow w ((((((w3).setCell ⟨w.heap.size, 0, none⟩ (.int .i64 0)).setCell ⟨w.heap.size, 1, none⟩ (.int .i64 0)).setCell ⟨w.heap.size, 2, none⟩ (.int .i64 0)).setCell ⟨w.heap.size, 3, none⟩ (.int .i64 0)).setCell ⟨w.heap.size, 4, none⟩ (.int .i64 0))) := (((((R3.out.old.set (Nat.le_refl _) 0 _).set (Nat.le_refl _) 1 _).set (Nat.le_refl _) 2 _).set (Nat.le_refl _) 3 _).set (Nat.le_refl _) 4 _)
                    generalize hW9 : (((((w3).setCell ⟨w.heap.size, 0, none⟩ (.int .i64 0)).setCell ⟨w.heap.size, 1, none⟩ (.int .i64 0)).setCell ⟨w.heap.size, 2, none⟩ (.int .i64 0)).setCell ⟨w.heap.size, 3, none⟩ (.int .i64 0)).setCell ⟨w.heap.size, 4, none⟩ (.int .i64 0) = W9 at BR OR ⊢
                    exact cref_ret BR.out rfl rfl (by unfold CtPost; rw [HF.out.1, HF.out.2, HF.out.2, HF.out.2, HF.out.2, HF.out.2]; exact ⟨rfl, OR.out⟩)
                · have HF := Lib.hid (ct_six (t := s.data.toList) (by rw [HPL.out]; exact ct_word (k := 4) (by omega) hw0))
                  have en : (p0.toList == [112, 111, 112, 117, 108, 97, 114]) = false := by rw [ba_toList, beq_eq_false_iff_ne, HP0.out]; exact hw0
                  have en2 : (p0.toList == (⟨#[112, 111, 112, 117, 108, 97, 114]⟩ : ByteArray).toList) = false := by rw [ba_toList ⟨#[112, 111, 112, 117, 108, 97, 114]⟩]; exact en
                  have en3 : (p0.toList != [112, 111, 112, 117, 108, 97, 114]) = true := by rw [bne, en]; rfl
                  clear hw0
                  have t0 := gg.2
                  clear gg
                  first
                    | go_region_with (go_at_call 50; refine (rwd_is _).mono ?_; rintro e w3 ⟨rfl, hb3⟩; have r9 : w3.cell? ⟨g, 8, none⟩ = some (.string p0) := (hb3.cell (p := ⟨g, 8, none⟩) (by simpa using R2.out.hlt)).trans t0)
                    | fail
                  all_goals
                    have O3 : Hid (Ow w2 w3) := ((Ow.refl _).drew).then hb3
                    have R3 := Lib.hid (R2.out.then O3.out)
                    clear hb3
                    have x0 : w3.cell? ⟨w.heap.size, 0, none⟩ = some (.int .i64 0) := R3.out.res.at (i := 0) rfl
                    have y0 : w3.frozen? ⟨w.heap.size, 0, none⟩ = false := R3.out.res.z 0
                    have x1 : w3.cell? ⟨w.heap.size, 1, none⟩ = some (.int .i64 0) := R3.out.res.at (i := 1) rfl
                    have y1 : w3.frozen? ⟨w.heap.size, 1, none⟩ = false := R3.out.res.z 1
                    have x2 : w3.cell? ⟨w.heap.size, 2, none⟩ = some (.int .i64 0) := R3.out.res.at (i := 2) rfl
                    have y2 : w3.frozen? ⟨w.heap.size, 2, none⟩ = false := R3.out.res.z 2
                    have x3 : w3.cell? ⟨w.heap.size, 3, none⟩ = some (.int .i64 0) := R3.out.res.at (i := 3) rfl
                    have y3 : w3.frozen? ⟨w.heap.size, 3, none⟩ = false := R3.out.res.z 3
                    have x4 : w3.cell? ⟨w.heap.size, 4, none⟩ = some (.int .i64 0) := R3.out.res.at (i := 4) rfl
                    have y4 : w3.frozen? ⟨w.heap.size, 4, none⟩ = false := R3.out.res.z 4
                    go_wp2
                    have BR : Hid (Bx w.heap.size cfg0 45 ((((((w3).setCell ⟨w.heap.size, 0, none⟩ (.int .i64 0)).setCell ⟨w.heap.size, 1, none⟩ (.int .i64 0)).setCell ⟨w.heap.size, 2, none⟩ (.int .i64 0)).setCell ⟨w.heap.size, 3, none⟩ (.int .i64 0)).setCell ⟨w.heap.size, 4, none⟩ (.int .i64 0))) := (((((R3.out.res.set 0 _).set 1 _).set 2 _).set 3 _).set 4 _)
                    have OR : Hid (Ow w ((((((w3).setCell ⟨w.heap.size, 0, none⟩ (.int .i64 0)).setCell ⟨w.heap.size, 1, none⟩ (.int .i64 0)).setCell ⟨w.heap.size, 2, none⟩ (.int .i64 0)).setCell ⟨w.heap.size, 3, none⟩ (.int .i64 0)).setCell ⟨w.heap.size, 4, none⟩ (.int .i64 0))) := (((((R3.out.old.set (Nat.le_refl _) 0 _).set (Nat.le_refl _) 1 _).set (Nat.le_refl _) 2 _).set (Nat.le_refl _) 3 _).set (Nat.le_refl _) 4 _)
                    generalize hW9 : (((((w3).setCell ⟨w.heap.size, 0, none⟩ (.int .i64 0)).setCell ⟨w.heap.size, 1, none⟩ (.int .i64 0)).setCell ⟨w.heap.size, 2, none⟩ (.int .i64 0)).setCell ⟨w.heap.size, 3, none⟩ (.int .i64 0)).setCell ⟨w.heap.size, 4, none⟩ (.int .i64 0) = W9 at BR OR ⊢
                    exact cref_ret BR.out rfl rfl (by unfold CtPost; rw [HF.out.1, HF.out.2, HF.out.2, HF.out.2, HF.out.2, HF.out.2]; exact ⟨rfl, OR.out⟩)
        · have HF := Lib.hid (rw_six HPL.out (by rw [← HL.out]; exact h10))
          have e10 : ((n : Int) != 10) = true := by rw [bne_iff_ne]; omega
          clear h10
          have x0 : wr.cell? ⟨w.heap.size, 0, none⟩ = some (.int .i64 0) := HR.out.at (i := 0) rfl
          have y0 : wr.frozen? ⟨w.heap.size, 0, none⟩ = false := HR.out.z 0
          have x1 : wr.cell? ⟨w.heap.size, 1, none⟩ = some (.int .i64 0) := HR.out.at (i := 1) rfl
          have y1 : wr.frozen? ⟨w.heap.size, 1, none⟩ = false := HR.out.z 1
          have x2 : wr.cell? ⟨w.heap.size, 2, none⟩ = some (.int .i64 0) := HR.out.at (i := 2) rfl
          have y2 : wr.frozen? ⟨w.heap.size, 2, none⟩ = false := HR.out.z 2
          have x3 : wr.cell? ⟨w.heap.size, 3, none⟩ = some (.int .i64 0) := HR.out.at (i := 3) rfl
          have y3 : wr.frozen? ⟨w.heap.size, 3, none⟩ = false := HR.out.z 3
          have x4 : wr.cell? ⟨w.heap.size, 4, none⟩ = some (.int .i64 0) := HR.out.at (i := 4) rfl
          have y4 : wr.frozen? ⟨w.heap.size, 4, none⟩ = false := HR.out.z 4
          go_wp2
          have BR : Hid (Bx w.heap.size cfg0 45 ((((((wr).setCell ⟨w.heap.size, 0, none⟩ (.int .i64 0)).setCell ⟨w.heap.size, 1, none⟩ (.int .i64 0)).setCell ⟨w.heap.size, 2, none⟩ (.int .i64 0)).setCell ⟨w.heap.size, 3, none⟩ (.int .i64 0)).setCell ⟨w.heap.size, 4, none⟩ (.int .i64 0))) := (((((HR.out.set 0 _).set 1 _).set 2 _).set 3 _).set 4 _)
          have OR : Hid (Ow w ((((((wr).setCell ⟨w.heap.size, 0, none⟩ (.int .i64 0)).setCell ⟨w.heap.size, 1, none⟩ (.int .i64 0)).setCell ⟨w.heap.size, 2, none⟩ (.int .i64 0)).setCell ⟨w.heap.size, 3, none⟩ (.int .i64 0)).setCell ⟨w.heap.size, 4, none⟩ (.int .i64 0))) := (((((HB.out.set (Nat.le_refl _) 0 _).set (Nat.le_refl _) 1 _).set (Nat.le_refl _) 2 _).set (Nat.le_refl _) 3 _).set (Nat.le_refl _) 4 _)
          generalize hW9 : (((((wr).setCell ⟨w.heap.size, 0, none⟩ (.int .i64 0)).setCell ⟨w.heap.size, 1, none⟩ (.int .i64 0)).setCell ⟨w.heap.size, 2, none⟩ (.int .i64 0)).setCell ⟨w.heap.size, 3, none⟩ (.int .i64 0)).setCell ⟨w.heap.size, 4, none⟩ (.int .i64 0) = W9 at BR OR ⊢
          exact cref_ret BR.out rfl rfl (by unfold CtPost; rw [HF.out.1, HF.out.2, HF.out.2, HF.out.2, HF.out.2, HF.out.2]; exact ⟨rfl, OR.out⟩)
end Go.Proofs.YtabopillicdjaaaGreatDoor

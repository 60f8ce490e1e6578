/- The reference of chapter 1: Join. -/
import Derived.Test.YtkbbkolanbgajaaDoorWJnW
import Derived.Test.YtkbbkolanbgajaaDoorWRDig
namespace Go.Proofs.YtkbbkolanbgajaaDoor
open Go.RowKit
open Wd (fieldT joinT joinE joinS okF longF quoteL bareB)

theorem joinT_snoc {fs : List (List UInt8 × Bool)} {k : Nat} {x : List UInt8 × Bool} (hx : fs[k]? = some x) (hk : 0 < k) : joinT (fs.take (k + 1)) = (joinT (fs.take k) ++ [32]) ++ fieldT x := by
  rw [List.take_add_one, hx, Option.toList_some, Wd.join_app _ _ (by
    intro e
    have h1 := congrArg List.length e
    have h2 := (List.getElem?_eq_some_iff.1 hx).1
    rw [List.length_take, List.length_nil] at h1
    omega) (by simp), Wd.join_one]
  simp
theorem joinT_first {fs : List (List UInt8 × Bool)} {x : List UInt8 × Bool} (hx : fs[0]? = some x) : joinT (fs.take (0 + 1)) = fieldT x := by
  rw [List.take_add_one, hx, Option.toList_some]
  simp [Wd.join_one]
theorem join_formless {fs : List (List UInt8 × Bool)} {k : Nat} {x : List UInt8 × Bool} (hn : fs.length ≤ 64) (hs : ∀ x ∈ fs, longF x = false) (hx : fs[k]? = some x) (h : okF x = false) : joinS fs = [] ∧ joinE fs = 6 := by
  have hno : fs.any longF = false := by rw [List.any_eq_false]; intro x hx; rw [hs x hx]; simp
  have hnn : ¬ (64 < fs.length ∨ fs.any longF = true) := by rw [hno]; simp; omega
  have ha : fs.all okF = false := by rw [List.all_eq_false]; exact ⟨x, List.mem_of_getElem? hx, by rw [h]; simp⟩
  have e : joinE fs = 6 := by unfold joinE; rw [if_neg hnn, if_pos ha]
  exact ⟨joinS_no e (by decide), e⟩
theorem join_end {fs : List (List UInt8 × Bool)} (hn : fs.length ≤ 64) (hs : ∀ x ∈ fs, longF x = false) (ha : fs.all okF = true) : (8192 < (joinT fs).length → joinS fs = [] ∧ joinE fs = 3) ∧ (¬ 8192 < (joinT fs).length → joinS fs = joinT fs ∧ joinE fs = 0) := by
  have hno : fs.any longF = false := by rw [List.any_eq_false]; intro x hx; rw [hs x hx]; simp
  have hnn : ¬ (64 < fs.length ∨ fs.any longF = true) := by rw [hno]; simp; omega
  have hna : ¬ fs.all okF = false := by rw [ha]; simp
  refine ⟨fun hb => ?_, fun hb => ?_⟩
  · have e : joinE fs = 3 := by unfold joinE; rw [if_neg hnn, if_neg hna, if_pos hb]
    exact ⟨joinS_no e (by decide), e⟩
  · have e : joinE fs = 0 := by unfold joinE; rw [if_neg hnn, if_neg hna, if_neg hb]
    exact ⟨by unfold joinS; rw [if_pos e], e⟩
theorem sz_sep (u f : ByteArray) (k : Nat) (h1 : u.size ≤ 8003 * k) (h2 : f.size ≤ 8002) : (u ++ ⟨#[32]⟩ ++ f).size ≤ 8003 * (k + 1) := by
  have e1 : (⟨#[32]⟩ : ByteArray).size = 1 := rfl
  simp only [ByteArray.size_append, e1]; omega
/-- The first k fields are short. -/
def ShortTo (fs : List (List UInt8 × Bool)) (k : Nat) : Prop := ∀ x ∈ fs.take k, longF x = false
theorem ShortTo.next {fs : List (List UInt8 × Bool)} {k : Nat} {x : List UInt8 × Bool} (h : ShortTo fs k) (hx : fs[k]? = some x) (hl : longF x = false) : ShortTo fs (k + 1) := by
  intro y hy
  rw [List.take_add_one, hx, Option.toList_some] at hy
  rcases List.mem_append.1 hy with hy | hy
  · exact h y hy
  · simp at hy; subst hy; exact hl
theorem ShortTo.all {fs : List (List UInt8 × Bool)} {k : Nat} (h : ShortTo fs k) (hk : fs.length ≤ k) : ∀ x ∈ fs, longF x = false := by
  intro x hx
  refine h x ?_
  rwa [List.take_of_length_le hk]
def OkTo (fs : List (List UInt8 × Bool)) (k : Nat) : Prop := (fs.take k).all okF = true
theorem OkTo.next {fs : List (List UInt8 × Bool)} {k : Nat} {x : List UInt8 × Bool} (h : OkTo fs k) (hx : fs[k]? = some x) (hl : okF x = true) : OkTo fs (k + 1) := by
  unfold OkTo at h ⊢
  rw [List.take_add_one, hx, Option.toList_some, List.all_append, h]
  simp [hl]

set_option maxRecDepth 100000 in
set_option maxHeartbeats 4000000 in
theorem rjoin_any (v : Value) (fs : List (List UInt8 × Bool)) (w : World) (hf : FldsA w v fs) (hn : fs.length ≤ 100000) :
    Calls Tryd.prog 25 #[v] w (JnPost fs w) := by
  rcases hf with ⟨rfl, a, cap, rfl⟩ | ⟨hne, g, off, cap, rfl, hg, hcells⟩
  · clear hn
    go_enter Tryd.func25, Tryd.ntmps25
    go_wp2
    go_loopw [4] (fun i wr => i = .int .i64 0 ∧ w = wr) (fun _ _ => 0)
    case atStart => exact ⟨rfl, rfl⟩
    case round =>
      obtain ⟨rfl, rfl⟩ := hrel
      go_wp2
      go_loopw [5, 6] (fun s i wr => s = .string ⟨#[]⟩ ∧ i = .int .i64 0 ∧ w = wr) (fun _ _ _ => 0)
      case atStart => exact ⟨rfl, rfl, rfl⟩
      case round =>
        obtain ⟨rfl, rfl, rfl⟩ := hrel
        go_wp2
        go_ret2
        exact ⟨rfl, Ow.refl _⟩
  · by_cases h64 : 64 < fs.length
    · have HF := Lib.hid (join_many h64)
      have e1 : decide (64 < fs.length) = true := by simpa using h64
      clear hcells
      go_enter Tryd.func25, Tryd.ntmps25
      go_wp2
      go_ret2
      unfold JnPost
      rw [HF.out.1, HF.out.2]
      exact ⟨rfl, Ow.refl _⟩
    · have hn64 : fs.length ≤ 64 := by omega
      have HC := Lib.hid hcells
      clear hcells hne hn h64
      go_enter Tryd.func25, Tryd.ntmps25
      go_wp2
      go_loopw [4] (fun i wr => ∃ k : Nat, k ≤ fs.length ∧ i = .int .i64 k ∧ ShortTo fs k ∧ w = wr) (fun i _ => fs.length - (intOf i).toNat)
      case atStart => exact ⟨0, by omega, rfl, fun x hx => by simp at hx, rfl⟩
      case round =>
        obtain ⟨k, hk, rfl, hsh, rfl⟩ := hrel
        have HSh := Lib.hid hsh
        clear hsh
        by_cases hlt : k < fs.length
        · obtain ⟨⟨S, q⟩, hx⟩ : ∃ x, fs[k]? = some x := ⟨fs[k], List.getElem?_eq_getElem hlt⟩
          have c0 := (HC.out k _ hx).1
          simp only at c0
          have HX := Lib.hid hx
          obtain ⟨t, ht⟩ : ∃ t : ByteArray, t = ⟨S.toArray⟩ := ⟨_, rfl⟩
          have HT : Hid (t.data.toList = S) := by rw [ht]; rfl
          rw [← ht] at c0
          have el : decide (k < fs.length) = true := by simpa using hlt
          clear hx ht
          by_cases h2 : 2000 < t.size
          · have HF := Lib.hid (join_far HX.out (by simp only [longF, decide_eq_true_eq]; rw [← HT.out, ba_len]; exact h2))
            go_wp2
            go_ret2
            unfold JnPost
            rw [HF.out.1, HF.out.2]
            exact ⟨rfl, Ow.refl _⟩
          · have e2 : decide ((2000 : Int) < (t.size : Int)) = false := decide_eq_false (by omega)
            have HLg : Hid (longF (S, q) = false) := by simp only [Hid, longF, decide_eq_false_iff_not]; rw [← HT.out, ba_len]; exact h2
            clear h2
            go_wp2
            go_roundw
            case rel => exact ⟨k + 1, by omega, by go_num, HSh.out.next HX.out HLg.out, by first | rfl | trivial⟩
            case measure => simp [intOf]; omega
        · have el : decide (k < fs.length) = false := by simpa using hlt
          have HS := Lib.hid (HSh.out.all (by omega))
          clear hlt hk HSh
          go_wp2
          go_loopw [5, 6] (fun s i wr => ∃ (k : Nat) (u : ByteArray), k ≤ fs.length ∧ i = .int .i64 k ∧ s = .string u ∧ u.data.toList = joinT (fs.take k) ∧ u.size ≤ 8003 * k ∧ OkTo fs k ∧ Ow w wr) (fun _ i _ => fs.length - (intOf i).toNat)
          case atStart => exact ⟨0, ⟨#[]⟩, by omega, rfl, rfl, by simp [joinT, Lib.join, List.intercalate], by decide, rfl, Ow.refl _⟩
          case round =>
            obtain ⟨k, u, hk, rfl, rfl, hu, hus, hok, hb⟩ := hrel
            have HU := Lib.hid hu
            have HO := Lib.hid hok
            have HB := Lib.hid hb
            clear hu hok hb
            by_cases hlt : k < fs.length
            · obtain ⟨⟨S, q⟩, hx⟩ : ∃ x, fs[k]? = some x := ⟨fs[k], List.getElem?_eq_getElem hlt⟩
              have c0 := (HB.out.cell (p := ⟨g, off + k * 2, none⟩) hg).trans (HC.out k _ hx).1
              have c1 := (HB.out.cell (p := ⟨g, off + k * 2 + 1, none⟩) hg).trans (HC.out k _ hx).2
              simp only at c0 c1
              have HX := Lib.hid hx
              obtain ⟨t, ht⟩ : ∃ t : ByteArray, t = ⟨S.toArray⟩ := ⟨_, rfl⟩
              have HT : Hid (t.data.toList = S) := by rw [ht]; rfl
              rw [← ht] at c0
              have el2 : decide (k < fs.length) = true := by simpa using hlt
              have hts : t.size ≤ 2000 := by
                have := HS.out _ (List.mem_of_getElem? hx)
                simp only [longF, decide_eq_false_iff_not] at this
                rw [← HT.out, ba_len] at this
                omega
              have hs : t.size ≤ 9000 := by omega
              clear hx ht
              cases q with
              | true =>
                obtain ⟨f, hf⟩ : ∃ f : ByteArray, f.data.toList = quoteL t.data.toList := ⟨⟨(quoteL t.data.toList).toArray⟩, rfl⟩
                have hfs : f.size ≤ 8002 := by
                  have := esc_flat4 t.data.toList
                  rw [← hf, ba_len, ba_len] at this
                  omega
                have HF := Lib.hid hf
                have HFT : Hid (f.data.toList = fieldT (S, true)) := by rw [Hid, hf, HT.out]; rfl
                clear hf
                by_cases hk0 : k = 0
                · subst hk0
                  have c0' : wr.cell? ⟨g, off, none⟩ = some (.string t) := by simpa using c0
                  have c1' : wr.cell? ⟨g, off + 1, none⟩ = some (.bool true) := by simpa using c1
                  have HU0 : Hid (u.data.toList = []) := by rw [Hid, HU.out]; simp [joinT, Lib.join, List.intercalate]
                  go_wp2_with (go_at_call 22; refine (rq_is _ _ HF.out _ hs).mono ?_; rintro e w3 ⟨rfl, hb3⟩)
                  go_roundw
                  case rel => exact ⟨1, _, by omega, by go_num, rfl, by rw [ba_app, HU0.out, HFT.out]; exact (joinT_first HX.out).symm, by simp; omega, HO.out.next HX.out rfl, HB.out.then hb3⟩
                  case measure => simp [intOf]; omega
                · have ek : (0 : Int) < (k : Int) := by omega
                  have hk1 : 0 < k := by omega
                  clear hk0
                  go_wp2_with (go_at_call 22; refine (rq_is _ _ HF.out _ hs).mono ?_; rintro e w3 ⟨rfl, hb3⟩)
                  go_roundw
                  case rel => exact ⟨k + 1, _, by omega, by go_num, rfl, by rw [ba_app, ba_app, HU.out, HFT.out]; exact (joinT_snoc HX.out hk1).symm, sz_sep _ _ k hus (by omega), HO.out.next HX.out rfl, HB.out.then hb3⟩
                  case measure => simp [intOf]; omega
              | false =>
                cases hbr : bareB S with
                | false =>
                  have HBr := Lib.hid hbr
                  clear hbr
                  have HF := Lib.hid (join_formless hn64 HS.out HX.out (by simp [okF, HBr.out]))
                  go_wp2_with (go_at_call 30; refine (rbare_is _ false (by rw [HT.out]; exact HBr.out) _ hs).mono ?_; rintro e w3 ⟨rfl, hb3⟩)
                  go_ret2
                  unfold JnPost
                  rw [HF.out.1, HF.out.2]
                  exact ⟨rfl, HB.out.then hb3⟩
                | true =>
                  have HBr := Lib.hid hbr
                  clear hbr
                  have HFT : Hid (t.data.toList = fieldT (S, false)) := HT.out
                  by_cases hk0 : k = 0
                  · subst hk0
                    have c0' : wr.cell? ⟨g, off, none⟩ = some (.string t) := by simpa using c0
                    have c1' : wr.cell? ⟨g, off + 1, none⟩ = some (.bool false) := by simpa using c1
                    have HU0 : Hid (u.data.toList = []) := by rw [Hid, HU.out]; simp [joinT, Lib.join, List.intercalate]
                    go_wp2_with (go_at_call 30; refine (rbare_is _ true (by rw [HT.out]; exact HBr.out) _ hs).mono ?_; rintro e w3 ⟨rfl, hb3⟩; have c0n := (hb3.cell (p := ⟨g, off, none⟩) (Nat.lt_of_lt_of_le hg HB.out.size)).trans c0'; have c1n := (hb3.cell (p := ⟨g, off + 1, none⟩) (Nat.lt_of_lt_of_le hg HB.out.size)).trans c1')
                    go_roundw
                    case rel => exact ⟨1, _, by omega, by go_num, rfl, by rw [ba_app, HU0.out, HFT.out]; exact (joinT_first HX.out).symm, by simp; omega, HO.out.next HX.out (by simp [okF, HBr.out]), HB.out.then hb3⟩
                    case measure => simp [intOf]; omega
                  · have ek : (0 : Int) < (k : Int) := by omega
                    have hk1 : 0 < k := by omega
                    clear hk0
                    go_wp2_with (go_at_call 30; refine (rbare_is _ true (by rw [HT.out]; exact HBr.out) _ hs).mono ?_; rintro e w3 ⟨rfl, hb3⟩; have c0n := (hb3.cell (p := ⟨g, off + k * 2, none⟩) (Nat.lt_of_lt_of_le hg HB.out.size)).trans c0; have c1n := (hb3.cell (p := ⟨g, off + k * 2 + 1, none⟩) (Nat.lt_of_lt_of_le hg HB.out.size)).trans c1)
                    go_roundw
                    case rel => exact ⟨k + 1, _, by omega, by go_num, rfl, by rw [ba_app, ba_app, HU.out, HFT.out]; exact (joinT_snoc HX.out hk1).symm, sz_sep _ _ k hus (by omega), HO.out.next HX.out (by simp [okF, HBr.out]), HB.out.then hb3⟩
                    case measure => simp [intOf]; omega
            · have el2 : decide (k < fs.length) = false := by simpa using hlt
              have HT : Hid (u.data.toList = joinT fs) := by
                have := HU.out
                rwa [List.take_of_length_le (by omega)] at this
              have HA : Hid (fs.all okF = true) := by
                have := HO.out
                unfold OkTo at this
                rwa [List.take_of_length_le (by omega)] at this
              obtain ⟨d1, d2⟩ := join_end hn64 HS.out HA.out
              rw [← HT.out, ba_len] at d1 d2
              have D1 := Lib.hid d1
              have D2 := Lib.hid d2
              clear d1 d2 hlt
              by_cases hbig : 8192 < u.size
              · have HF := Lib.hid (D1.out hbig)
                have eb : decide ((8192 : Int) < (u.size : Int)) = true := decide_eq_true (by omega)
                clear hbig
                go_wp2
                go_ret2
                unfold JnPost
                rw [HF.out.1, HF.out.2]
                exact ⟨rfl, HB.out⟩
              · have HF := Lib.hid (D2.out hbig)
                have eb : decide ((8192 : Int) < (u.size : Int)) = false := decide_eq_false (by omega)
                clear hbig
                go_wp2
                go_ret2
                unfold JnPost
                rw [HF.out.1, HF.out.2, ba_mk]
                exact ⟨rfl, HB.out⟩
end Go.Proofs.YtkbbkolanbgajaaDoor

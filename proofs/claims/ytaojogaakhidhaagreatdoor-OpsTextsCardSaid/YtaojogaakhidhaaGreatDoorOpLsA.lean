/- Package ops, and the reference of chapter 28: List. -/
import Derived.Test.YtaojogaakhidhaaGreatDoorQ8
import Derived.Test.YtaojogaakhidhaaGreatDoorOpRPv
import Derived.Test.YtaojogaakhidhaaGreatDoorWRLin
import Derived.OwnWalk
namespace Go.Proofs.YtaojogaakhidhaaGreatDoor
open Go.RowKit
open Sc (OC parE parC lsF listV)
open Wd (linesE linesS partsL)

theorem linA_is (s : ByteArray) (m : Int) (hm : linesE s.data.toList = m) (L : List (List UInt8)) (hL : linesS s.data.toList = L) (w : World) (hs : s.size ≤ 2000000) (hg : Gl w) :
    Calls Tryz.prog 22 #[.string s] w fun e w' => ∃ v, e = .returned (.tuple #[v, .int .i64 m]) ∧ StrsA w' v L ∧ Ow w w' := by
  subst hm hL
  exact Lines_any s w hs hg
theorem rlinA_is (s : ByteArray) (m : Int) (hm : linesE s.data.toList = m) (L : List (List UInt8)) (hL : linesS s.data.toList = L) (w : World) (hs : s.size ≤ 2000000) :
    Calls Tryz.prog 23 #[.string s] w fun e w' => ∃ v, e = .returned (.tuple #[v, .int .i64 m]) ∧ StrsA w' v L ∧ Ow w w' := by
  subst hm hL
  exact rLines_any s w hs
theorem linesN (t : List UInt8) : (linesS t).length ≤ 5000 := by
  unfold linesS
  split
  · rename_i h
    have h1 := h.1
    unfold linesE at h1
    split at h1
    · cases h1
    · rw [if_neg h.2] at h1
      split at h1
      · cases h1
      · split at h1
        · cases h1
        · omega
  · simp
theorem mem_ended : ∀ {L : List (List UInt8)} {x : List UInt8}, x ∈ L → x.length < (Sc.ended L).length
  | y :: L, x, h => by
    have e : Sc.ended (y :: L) = y ++ 10 :: Sc.ended L := by simp [Sc.ended]
    rw [e, List.length_append, List.length_cons]
    rcases List.mem_cons.1 h with rfl | h
    · omega
    · have := mem_ended h; omega
theorem linesLen (t : List UInt8) : ∀ x ∈ linesS t, x.length ≤ t.length := by
  intro x hx
  unfold linesS at hx
  split at hx
  · have := mem_ended hx
    rw [Sc.ended_parts, List.length_append, List.length_dropLast, List.length_singleton] at this
    omega
  · simp at hx
theorem listV_bad {t : List UInt8} {m : Int} (h : linesE t = m) (hm : m ≠ 0) : listV t = ([], 0, m) := by unfold listV; rw [h, if_pos hm]
theorem listV_ok {t : List UInt8} (h : linesE t = 0) : listV t = lsF (linesS t) 0 [] := by unfold listV; rw [if_neg (fun e => e h)]
theorem lsF_at {L : List (List UInt8)} {k : Nat} {x : List UInt8} (hx : L[k]? = some x) : L.drop k = x :: L.drop (k + 1) := by
  obtain ⟨h, e⟩ := List.getElem?_eq_some_iff.1 hx
  rw [List.drop_eq_getElem_cons h, e]
theorem lsF_skip {L : List (List UInt8)} {k : Nat} {x : List UInt8} {acc : List OC} (hx : L[k]? = some x) (h : x = []) : lsF (L.drop k) k acc = lsF (L.drop (k + 1)) (k + 1) acc := by
  rw [lsF_at hx, lsF, if_pos h]
theorem lsF_err {L : List (List UInt8)} {k : Nat} {x : List UInt8} {acc : List OC} {p : Int} (hx : L[k]? = some x) (h : x ≠ []) (hp : parE x = p) (h0 : p ≠ 0) : lsF (L.drop k) k acc = ([], (k : Int) + 1, p) := by
  rw [lsF_at hx, lsF, if_neg h, if_pos (by rw [hp]; exact h0), hp]; rfl
theorem lsF_long {L : List (List UInt8)} {k : Nat} {x : List UInt8} {acc : List OC} (hx : L[k]? = some x) (h : x ≠ []) (hp : parE x = 0) (h2 : acc.length = 200) : lsF (L.drop k) k acc = ([], (k : Int) + 1, 3) := by
  rw [lsF_at hx, lsF, if_neg h, if_neg (fun e => e hp), if_pos h2]; rfl
theorem lsF_step {L : List (List UInt8)} {k : Nat} {x : List UInt8} {acc : List OC} {d : OC} (hx : L[k]? = some x) (h : x ≠ []) (hp : parE x = 0) (h2 : acc.length ≠ 200) (hd : parC x = d) : lsF (L.drop k) k acc = lsF (L.drop (k + 1)) (k + 1) (acc ++ [d]) := by
  rw [lsF_at hx, lsF, if_neg h, if_neg (fun e => e hp), if_neg h2, hd]
theorem lsF_end {L : List (List UInt8)} {k : Nat} {acc : List OC} (h : L.length ≤ k) : lsF (L.drop k) k acc = (acc, 0, 0) := by
  rw [List.drop_eq_nil_iff.2 h, lsF]
theorem own_slice {w : World} {base : Nat} {e : TypeId} {size : Nat} {v : Value} {n : Nat} {xs : List Value} (h : w.ownsRow base e size v n xs) : ∃ a cap, v = .slice a n cap := by
  rcases Joins.ownsRow_forms h with ⟨rfl, rfl⟩ | ⟨g, cap, rfl⟩
  · exact ⟨_, _, rfl⟩
  · exact ⟨_, _, rfl⟩
/-- The cells of a new block, behind a world of one allocation. -/
theorem cells_new (W : World) (cs : Array Value) (T : TypeId) (n : Nat) (hn : n = W.heap.size) (l : List Value) (h : cs.toList = l) : ∀ (j : Nat) u, l[j]? = some u → (W.alloc (.cells cs T)).cell? ((⟨n, 0, none⟩ : Addr).add j) = some u := by
  subst h hn
  intro j u hu
  have hb := heap_alloc_new W (.cells cs T)
  rw [Lib.add_plain, Nat.zero_add, cell_of_row _ _ j _ _ _ hb]
  rwa [Array.getElem?_toList] at hu
def LiPost (R : List OC × Int × Int) (w : World) (e : Ending) (w' : World) : Prop := ∃ v, e = .returned (.tuple #[v, .int .i64 R.2.1, .int .i64 R.2.2]) ∧ OcsA w' v R.1 ∧ Ow w w'
theorem nil_ocs (w : World) : OcsA w (.slice none 0 0) [] := .inl ⟨rfl, _, _, rfl⟩
set_option maxRecDepth 100000 in
set_option maxHeartbeats 8000000 in
theorem list_any (s : ByteArray) (w : World) (hs : s.size ≤ 9000) (hg : Gl w) :
    Calls Tryz.prog 9 #[.string s] w (LiPost (listV s.data.toList) w) := by
  obtain ⟨m, hm⟩ : ∃ m, linesE s.data.toList = m := ⟨_, rfl⟩
  obtain ⟨L, hL⟩ : ∃ L, linesS s.data.toList = L := ⟨_, rfl⟩
  obtain ⟨R, hR⟩ : ∃ R, listV s.data.toList = R := ⟨_, rfl⟩
  rw [hR]
  have HLi := Lib.hid (fun W hG => linA_is s m hm L hL W (by omega) hG)
  have HSh : Hid (∀ x ∈ L, x.length ≤ 9000) := fun x hx => by rw [← hL] at hx; have := linesLen _ x hx; rw [ba_len] at this; omega
  have hnl : L.length ≤ 5000 := by rw [← hL]; exact linesN _
  have HG := Lib.hid hg
  by_cases hm0 : m = 0
  · subst hm0
    have HV : Hid (lsF (L.drop 0) 0 [] = R) := by rw [Hid, List.drop_zero, ← hL, ← listV_ok hm, hR]
    clear hm hL hR hg hs
    obtain ⟨i0, hi0, hz0, hz1, hz2⟩ := info_parts Tryz.infoOC
    go_enter Tryz.func9, Tryz.ntmps9
    go_wp2_with fail
    (go_at_call 22; refine (HLi.out _ HG.out).mono ?_; rintro e w1 ⟨va, rfl, hva, hb1⟩)
    have SA := Lib.hid hva
    have O1 : Hid (Ow w w1) := hb1
    clear hva hb1 HLi
    rcases SA.out with ⟨h0, ga, gc, rfl⟩ | ⟨hne, g, off, cap, rfl, hgl, hc⟩
    · have HF : Hid (([], 0, 0) = R) := by rw [Hid, ← HV.out, h0]; rfl
      clear h0 hnl
      go_wp2
      go_loopw [2, 20] (fun v ix wr => v = .slice none 0 0 ∧ ix = .int .i64 0 ∧ w1 = wr) (fun v ix _ => 0)
      case atStart => exact ⟨rfl, rfl, rfl⟩
      case round =>
        obtain ⟨rfl, rfl, rfl⟩ := hrel
        go_wp2
        go_ret3
        rw [← HF.out]
        exact ⟨_, rfl, nil_ocs _, O1.out⟩
    · have HC := Lib.hid hc
      clear hc hne
      go_wp2
      go_loopw [2, 20] (fun v ix wr => ∃ (k : Nat) (acc : List OC), k ≤ L.length ∧ ix = .int .i64 k ∧ acc.length ≤ k ∧ wr.ownsRow w1.heap.size 25 7 v acc.length (cellsO acc) ∧ Hid (Ow w1 wr) ∧ Hid (lsF (L.drop k) k acc = R)) (fun v ix _ => L.length - (intOf ix).toNat)
      case atStart => exact ⟨0, [], by omega, rfl, by simp, World.ownsRow_nil _ _ _ _, Ow.refl _, HV⟩
      case round =>
        obtain ⟨k, acc, hk, rfl, hak, hown, HB, HR⟩ := hrel
        clear HV
        have HO := Lib.hid hown
        have hszr : w1.heap.size ≤ wr.heap.size := HB.out.size
        clear hown
        by_cases hlt : k < L.length
        · obtain ⟨x, hx⟩ : ∃ x, L[k]? = some x := ⟨L[k], List.getElem?_eq_getElem hlt⟩
          have hxl := HSh.out x (List.mem_of_getElem? hx)
          obtain ⟨t, ht⟩ : ∃ t : ByteArray, t.data.toList = x := ⟨⟨x.toArray⟩, rfl⟩
          have c0 : wr.cell? ⟨g, off + k, none⟩ = some (.string t) := by
            rw [(HB.out.cell (p := ⟨g, off + k, none⟩) hgl).trans (HC.out k _ hx), ← ht, ba_mk]
          have hts : t.size ≤ 9000 := by rw [← ba_len, ht]; exact hxl
          have el : decide (k < L.length) = true := by simpa using hlt
          have hlt2 : (k : Int) < (L.length : Int) := by omega
          have HX := Lib.hid hx
          have HT := Lib.hid ht
          clear hx ht hxl
          by_cases hx0 : t.size = 0
          · have e0 := ba_empty hx0
            have HN := Lib.hid ((lsF_skip HX.out (by rw [← HT.out]; exact ba_nil hx0)).symm.trans HR.out)
            clear hx0
            go_wp2
            go_roundw
            case rel => exact ⟨k + 1, acc, by omega, by go_num, by omega, HO.out, HB, HN⟩
            case measure => simp [intOf]; omega
          · have e0 := ba_full (s := t) (by omega)
            have HXn : Hid (x ≠ []) := fun e => hx0 (by rw [← ba_len, HT.out, e]; rfl)
            obtain ⟨d, hd⟩ : ∃ d, parC x = d := ⟨_, rfl⟩
            obtain ⟨p, hp⟩ : ∃ p, parE x = p := ⟨_, rfl⟩
            have HP := Lib.hid (fun W hG => parse_any t W hts hG)
            unfold PaPost at HP
            rw [HT.out, hd, hp] at HP
            unfold ocells at HP
            have HD := Lib.hid hd
            have HPp := Lib.hid hp
            clear hd hp hx0
            by_cases hp0 : p = 0
            · subst hp0
              obtain ⟨av, cv, rfl⟩ := own_slice HO.out
              by_cases h200 : acc.length = 200
              · have HF := Lib.hid ((lsF_long HX.out HXn.out HPp.out h200).symm.trans HR.out)
                have e2 : ((acc.length : Int) == 200) = true := by rw [beq_iff_eq]; omega
                go_wp2_with (go_at_call 7; refine (HP.out _ (HG.out.below (O1.out.then HB.out))).mono ?_; rintro e w2 ⟨rfl, hb2⟩; have HO2 := Lib.hid (O1.out.then (HB.out.then hb2)); clear hb2)
                go_ret3
                rw [← HF.out]
                exact ⟨_, rfl, nil_ocs _, HO2.out.alloc _⟩
              · have HN := Lib.hid ((lsF_step HX.out HXn.out HPp.out h200 HD.out).symm.trans HR.out)
                have e2 : ((acc.length : Int) == 200) = false := by rw [beq_eq_false_iff_ne]; omega
                clear h200
                go_wp2_with (first
                  | (go_at_call 7; refine (HP.out _ (HG.out.below (O1.out.then HB.out))).mono ?_; rintro e w2 ⟨rfl, hb2⟩; have HO2 := Lib.hid (own_then HO.out hb2); have HB2 : Hid (Ow w1 w2) := HB.out.then hb2; have hsz2 : w1.heap.size ≤ w2.heap.size := HB2.out.size; clear hb2)
                  | (at_builtin; refine wpList_append_own _ rfl _ _ 30 rfl w1.heap.size 25 i0 (.agg #[.int .i64 0, .int .i64 0, .int .i64 0, .int .i64 0, .int .i64 0, .int .i64 0, .int .u64 0]) 7 56 Tryz.underlying30 hi0 hz0 hz1 hz2 rfl (by decide) _ acc.length (cellsO acc) rfl ((HO2.out.alloc _).alloc _) ⟨w2.heap.size + 1, 0, none⟩ 1 1 [.int .i64 d.k, .int .i64 d.a, .int .i64 d.b, .int .i64 d.f, .int .i64 d.p, .int .i64 d.r, .int .u64 d.v] rfl rfl (cells_new (w2.alloc (.cells #[.int .i64 d.k, .int .i64 d.a, .int .i64 d.b, .int .i64 d.f, .int .i64 d.p, .int .i64 d.r, .int .u64 d.v] 25)) #[.int .i64 d.k, .int .i64 d.a, .int .i64 d.b, .int .i64 d.f, .int .i64 d.p, .int .i64 d.r, .int .u64 d.v] 25 (w2.heap.size + 1) (by simp) _ rfl) (by simp [Value.oneCell']) (by unfold maxLen; omega) (by omega) (by simp; omega) ?_; intro v4 w4 hown4 hgrow4 hnil4))
                go_roundw
                case rel => exact ⟨k + 1, acc ++ [d], by omega, by go_num, by simp; omega, by rw [cellsO_snoc]; simpa using hown4, own_after ((HO2.out.alloc _).alloc _) hgrow4 ((HB2.out.alloc _).alloc _) (Nat.le_refl _), HN⟩
                case measure => simp [intOf]; omega
            · have hb0 : (p == 0) = false := beq_eq_false_iff_ne.2 hp0
              have HF := Lib.hid ((lsF_err HX.out HXn.out HPp.out hp0).symm.trans HR.out)
              clear hp0
              go_wp2_with (go_at_call 7; refine (HP.out _ (HG.out.below (O1.out.then HB.out))).mono ?_; rintro e w2 ⟨rfl, hb2⟩; have HO2 := Lib.hid (O1.out.then (HB.out.then hb2)); clear hb2)
              go_ret3
              rw [← HF.out]
              exact ⟨_, rfl, nil_ocs _, HO2.out.alloc _⟩
        · have el : decide (k < L.length) = false := by simpa using hlt
          have HF := Lib.hid ((lsF_end (by omega)).symm.trans HR.out)
          clear hlt
          go_wp2
          go_ret3
          rw [← HF.out]
          exact ⟨_, rfl, ocs_own HO.out, O1.out.then HB.out⟩
  · have HF : Hid (([], 0, m) = R) := by rw [Hid, ← hR, listV_bad hm hm0]
    have hb0 : (m == 0) = false := beq_eq_false_iff_ne.2 hm0
    clear hm hL hR hm0 hg hs
    go_enter Tryz.func9, Tryz.ntmps9
    go_wp2_with (go_at_call 22; refine (HLi.out _ HG.out).mono ?_; rintro e w1 ⟨va, rfl, hva, hb1⟩; clear hva)
    go_ret3
    rw [← HF.out]
    exact ⟨_, rfl, nil_ocs _, hb1⟩
end Go.Proofs.YtaojogaakhidhaaGreatDoor

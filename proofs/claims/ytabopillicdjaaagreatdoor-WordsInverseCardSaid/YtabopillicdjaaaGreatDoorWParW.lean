/- Package words: ParseList, walked (printed by gen/wparw.py). -/
import Derived.Test.YtabopillicdjaaaGreatDoorWPar
namespace Go.Proofs.YtabopillicdjaaaGreatDoor
open Go.RowKit
open Wd (natB valN decimalB runOf runsF expL expP cntP lastV plE plS partsL farTo Pr)

def cellsE (rs : List Pr) : List Value := rs.flatMap fun p => [.string ⟨p.1.toArray⟩, .string ⟨p.2.toArray⟩]
theorem cellsE_snoc (rs : List Pr) (p : Pr) : cellsE (rs ++ [p]) = cellsE rs ++ [.string ⟨p.1.toArray⟩, .string ⟨p.2.toArray⟩] := by simp [cellsE]
theorem cellsE_at : ∀ (rs : List Pr) (i : Nat) (p : Pr), rs[i]? = some p → (cellsE rs)[i * 2]? = some (.string ⟨p.1.toArray⟩) ∧ (cellsE rs)[i * 2 + 1]? = some (.string ⟨p.2.toArray⟩)
  | [], i, p, h => by simp at h
  | y :: rs, 0, p, h => by
    simp only [List.getElem?_cons_zero, Option.some.injEq] at h
    subst h
    exact ⟨rfl, rfl⟩
  | y :: rs, i + 1, p, h => by
    have := cellsE_at rs i p (by simpa using h)
    rw [show (i + 1) * 2 = i * 2 + 2 by omega, show i * 2 + 2 + 1 = i * 2 + 1 + 2 by omega]
    exact this
theorem StrsA.at {w : World} {g o n c : Nat} {L : List (List UInt8)} (h : StrsA w (.slice (some ⟨g, o, none⟩) n c) L) (hL : L ≠ []) : g < w.heap.size ∧ ∀ (i : Nat) x, L[i]? = some x → w.cell? ⟨g, o + i, none⟩ = some (.string ⟨x.toArray⟩) := by
  rcases h with ⟨h0, _⟩ | ⟨_, g', o', cap, hv, h1, h2⟩
  · exact absurd h0 hL
  · simp only [Value.slice.injEq, Option.some.injEq, Addr.mk.injEq, and_true] at hv
    obtain ⟨⟨rfl, rfl⟩, _, _⟩ := hv
    exact ⟨h1, h2⟩
theorem Tryz.infoPr : (Tryz.prog.info? 81).map (fun i => (i.zero, i.size, i.bytes)) = some (some (.agg #[.string ByteArray.empty, .string ByteArray.empty]), 2, 32) := by kernel_rfl
theorem Tryz.infoInt : (Tryz.prog.info? 3).map (fun i => (i.zero, i.size, i.bytes)) = some (some (.int .i64 0), 1, 8) := by kernel_rfl
theorem own_ints {w : World} {base : Nat} {v : Value} {l : List Int} (h : w.ownsRow base 3 1 v l.length (l.map (Value.int .i64))) : IntsA w v l := by
  by_cases h0 : l = []
  · subst h0
    refine .inl ⟨rfl, ?_⟩
    rcases Joins.ownsRow_forms h with ⟨rfl, _⟩ | ⟨g, cap, rfl⟩
    · exact ⟨_, _, rfl⟩
    · exact ⟨_, _, rfl⟩
  · rcases Joins.ownsRow_forms h with ⟨rfl, h1⟩ | ⟨g, cap, rfl⟩
    · exact absurd (List.length_eq_zero_iff.1 h1) h0
    · refine .inr ⟨h0, g, 0, cap, rfl, (h.lt g rfl).2, fun i x hx => ?_⟩
      have hi := (List.getElem?_eq_some_iff.1 hx).1
      rw [Nat.zero_add, h.cellAt i (by omega), List.getElem?_map, hx]
      rfl
theorem forms {w : World} {base : Nat} {e : TypeId} {size : Nat} {v : Value} {n : Nat} {xs : List Value} (h : w.ownsRow base e size v n xs) : ∃ sa sc, v = .slice sa n sc := by
  rcases Joins.ownsRow_forms h with ⟨rfl, rfl⟩ | ⟨g, cap, rfl⟩
  · exact ⟨_, _, rfl⟩
  · exact ⟨_, _, rfl⟩
def PlPost (s : ByteArray) (w : World) (e : Ending) (w' : World) : Prop := ∃ v, e = .returned (.tuple #[v, .int .i64 (plE s.data.toList)]) ∧ IntsA w' v (plS s.data.toList) ∧ Ow w w'
theorem flat_mem (c : UInt8) (x : List UInt8) : ∀ (ps : List (List UInt8)), x ∈ ps → x.length + 1 ≤ (ps.flatMap (c :: ·)).length
  | [], h => by cases h
  | p :: ps, h => by
    rw [List.flatMap_cons, List.length_append, List.length_cons]
    rcases List.mem_cons.1 h with rfl | h
    · omega
    · have := flat_mem c x ps h; omega
theorem mem_ge (L : List (List UInt8)) (c : UInt8) (s : List UInt8) (h : partsL c s = L) : ∀ x ∈ L, x.length ≤ s.length := by
  subst h
  intro x hx
  have hj := congrArg List.length (Wd.parts_join c s)
  have := flat_mem c x _ hx
  rw [hj, List.length_cons] at this
  omega
theorem exp_take_snoc {p : Pr} {j : Nat} (hj : j < cntP p) : (expP p).take (j + 1) = (expP p).take j ++ [((valN p.1 + j : Nat) : Int)] := by
  rw [List.take_add_one]
  congr 1
  unfold Wd.expP
  rw [List.getElem?_map, List.getElem?_range hj]
  rfl
set_option maxRecDepth 100000 in
set_option maxHeartbeats 8000000 in
theorem ParseList_any (s : ByteArray) (w : World) (hs : s.size ≤ 9000) (hg : Gl w) :
    Calls Tryz.prog 13 #[.string s] w (PlPost s w) := by
  have HG0 := Lib.hid hg
  clear hg
  by_cases h45 : s.data.toList = [45]
  · have HF : Hid (plE s.data.toList = 0 ∧ plS s.data.toList = []) := by rw [h45]; exact ⟨rfl, rfl⟩
    obtain rfl : s = ⟨#[45]⟩ := ba_ext h45
    clear h45
    go_enter Tryz.func13, Tryz.ntmps13
    go_wp2
    go_ret2
    unfold PlPost
    rw [HF.out.1, HF.out.2]
    exact ⟨_, rfl, .inl ⟨rfl, _, _, rfl⟩, Ow.refl _⟩
  · have es : (s.toList == [45]) = false := by rw [ba_toList, beq_eq_false_iff_ne]; exact h45
    have HS := Lib.hid h45
    obtain ⟨L, hL⟩ : ∃ L, partsL 44 s.data.toList = L := ⟨_, rfl⟩
    obtain ⟨n, hn⟩ : ∃ n, L.length = n := ⟨_, rfl⟩
    have hLne : L ≠ [] := by rw [← hL]; exact Wd.parts_ne 44 _
    have hn0 : 0 < n := by rw [← hn]; exact List.length_pos_iff.2 hLne
    have hnb : n ≤ 9001 := by
      have := Wd.parts_len 44 s.data.toList
      have h2 := List.count_le_length (a := (44 : UInt8)) (l := s.data.toList)
      rw [hL, hn] at this
      rw [ba_len] at h2
      omega
    have HMem := Lib.hid (mem_ge L 44 _ hL)
    have HLL := Lib.hid hL
    have HN := Lib.hid hn
    have HNe := Lib.hid hLne
    clear hL hn hLne h45
    obtain ⟨i0, hi0, hz0, hz1, hz2⟩ := info_parts Tryz.infoPr
    obtain ⟨j0, hj0, hy0, hy1, hy2⟩ := info_parts Tryz.infoInt
    go_enter Tryz.func13, Tryz.ntmps13
    go_wp2_with fail
    (go_at_call 34; refine (split_is1 s 44 L HLL.out n HN.out _ (by omega) HG0.out).mono ?_; rintro e W1 ⟨rfl, hst, hb1⟩)
    have HC1 := Lib.hid (hst.at HNe.out).2
    have hlt1 := (hst.at HNe.out).1
    have O1 : Hid (Ow w W1) := hb1
    have HG := Lib.hid (HG0.out.below hb1)
    clear hst hb1
    go_wp2_with fail
    go_loopw [4, 5, 6, 7, 8, 9, 10, 24] (fun lst ends _ _ _ _ _ idx wr => ∃ (k : Nat) (rs : List Pr) (lt : ByteArray), k ≤ n ∧ idx = .int .i64 k ∧ lst = .string lt ∧ Rn L k rs lt ∧ lt.size ≤ 9000 ∧ wr.ownsRow W1.heap.size 81 2 ends k (cellsE rs) ∧ Ow W1 wr) (fun _ _ _ _ _ _ _ idx _ => n - (intOf idx).toNat)
    case atStart => exact ⟨0, [], ⟨#[]⟩, by omega, rfl, rfl, Rn.start L _, by decide, World.ownsRow_nil _ _ _ _, Ow.refl _⟩
    case round =>
      obtain ⟨k, rs, lt, hk, rfl, rfl, hrn, hlt9, hown, hb⟩ := hrel
      have HRn := Lib.hid hrn
      have HO := Lib.hid hown
      have HB := Lib.hid hb
      have hszr : W1.heap.size ≤ wr.heap.size := hb.size
      clear hrn hown hb
      by_cases hlt : k < n
      · obtain ⟨X, hX⟩ : ∃ x, L[k]? = some x := ⟨L[k]'(by rw [HN.out]; exact hlt), List.getElem?_eq_getElem (by rw [HN.out]; exact hlt)⟩
        have ck := (HB.out.cell (p := ⟨w.heap.size, 0 + k, none⟩) hlt1).trans (HC1.out k X hX)
        rw [Nat.zero_add] at ck
        obtain ⟨x, hx⟩ : ∃ x : ByteArray, x = ⟨X.toArray⟩ := ⟨_, rfl⟩
        have HXX : Hid (x.data.toList = X) := by rw [hx]; rfl
        rw [← hx] at ck
        have hxs : x.size ≤ 9000 := by
          have := HMem.out X (List.mem_of_getElem? hX)
          rw [← HXX.out, ba_len, ba_len] at this
          omega
        have HX : Hid (L[k]? = some x.data.toList) := by rw [Hid, HXX.out]; exact hX
        have el : decide (k < n) = true := by simpa using hlt
        have B1 : Hid (Ow wr wr) := Ow.refl _
        clear hx hX
        rcases cut_cases x.data.toList with ⟨hcut, hno⟩ | ⟨A, Bb, hcut, hsplit, hno⟩
        · obtain ⟨a, ha⟩ : ∃ a : ByteArray, a = x := ⟨_, rfl⟩
          obtain ⟨b, hb⟩ : ∃ b : ByteArray, b.data.toList = [] := ⟨⟨#[]⟩, rfl⟩
          obtain ⟨f, hf⟩ : ∃ f : Bool, f = false := ⟨_, rfl⟩
          have HC : Hid (Lib.cut x.data.toList [45] = (a.data.toList, b.data.toList, f)) := by rw [Hid, hcut, ha, hb, hf]
          have has : a.size ≤ 9000 := by rw [ha]; exact hxs
          have hrun := run_single hno
          have HAx : Hid (a = x) := ha
          have HNo := Lib.hid hno
          clear hcut ha hb hno
          subst hf
          cases hd : decimalB a.data.toList with
          | false =>
            have HDa := Lib.hid hd
            have HF := Lib.hid (pl_form HS.out (by rw [HLL.out]; exact HRn.out.bad HX.out (by rw [hrun, ← HAx.out, hd]; rfl)))
            clear hd hrun
            go_wp2_with fail
            (go_at_call 35; refine (cutM_is x a b false HC.out _ hxs (HG.out.below (HB.out.then B1.out))).mono ?_; rintro e w2 ⟨rfl, hb2⟩)
            have B2 := Lib.hid (B1.out.then hb2)
            have hsw2 : W1.heap.size ≤ w2.heap.size := Nat.le_trans hszr B2.out.size
            clear hb2
            go_wp2_with fail
            (go_at_call 36; refine (isDecimal_is a false HDa.out _ has).mono ?_; rintro e w3 ⟨rfl, hb3⟩)
            have B3 := Lib.hid (B2.out.then hb3)
            have hsw3 : W1.heap.size ≤ w3.heap.size := Nat.le_trans hszr B3.out.size
            clear hb3
            go_wp2_with fail
            go_ret2
            unfold PlPost
            rw [HF.out.1, HF.out.2]
            exact ⟨_, rfl, .inl ⟨rfl, _, _, rfl⟩, O1.out.then (HB.out.then B3.out)⟩
          | true =>
            have HDa := Lib.hid hd
            have HNa : Hid (natB a.data.toList = true) := by
              rw [Hid, Wd.natB_dec (by rw [HAx.out]; exact HNo.out)]; exact hd
            have HRun : Hid (runOf x.data.toList = some (a.data.toList, a.data.toList)) := by rw [Hid, hrun, ← HAx.out, hd]; rfl
            have ha0 : 0 < a.size := by
              rcases Nat.eq_zero_or_pos a.size with h | h
              · rw [ba_nil h] at hd; cases hd
              · exact h
            obtain ⟨q, hq⟩ : ∃ q : Nat, a[0].toNat = q := ⟨_, rfl⟩
            have hq45 : ((q : Int) == 45) = false := by
              have := (Wd.digB_iff _).1 (List.all_eq_true.1 (Wd.natB_parts HNa.out).2.1 _ (List.mem_of_getElem? (ba_at a 0 ha0)))
              rw [hq] at this
              rw [beq_eq_false_iff_ne]; omega
            have ha0i : (0 : Int) < (a.size : Int) := by omega
            clear hd hrun
            go_wp2_with fail
            (go_at_call 35; refine (cutM_is x a b false HC.out _ hxs (HG.out.below (HB.out.then B1.out))).mono ?_; rintro e w2 ⟨rfl, hb2⟩)
            have B2 := Lib.hid (B1.out.then hb2)
            have hsw2 : W1.heap.size ≤ w2.heap.size := Nat.le_trans hszr B2.out.size
            clear hb2
            go_wp2_with fail
            (go_at_call 36; refine (isDecimal_is a true HDa.out _ has).mono ?_; rintro e w3 ⟨rfl, hb3⟩)
            have B3 := Lib.hid (B2.out.then hb3)
            have hsw3 : W1.heap.size ≤ w3.heap.size := Nat.le_trans hszr B3.out.size
            clear hb3
            go_wp2_with fail
            (go_at_call 36; refine (isDecimal_is a true HDa.out _ has).mono ?_; rintro e w4 ⟨rfl, hb4⟩)
            have B4 := Lib.hid (B3.out.then hb4)
            have hsw4 : W1.heap.size ≤ w4.heap.size := Nat.le_trans hszr B4.out.size
            clear hb4
            by_cases hk0 : k = 0
            · have HNx := Lib.hid (HRn.out.next HX.out HRun.out (.inl hk0) (t := a) rfl)
              have ek : decide ((0 : Int) < (k : Int)) = false := decide_eq_false (by omega)
              have ekn : decide (0 < k) = false := decide_eq_false (by omega)
              clear hk0
              go_wp2_with (at_builtin; refine wpList_append_own _ rfl _ _ 75 rfl W1.heap.size 81 i0 (.agg #[.string ByteArray.empty, .string ByteArray.empty]) 2 32 Tryz.underlying75 hi0 hz0 hz1 hz2 rfl (by decide) _ k (cellsE rs) rfl ((own_then HO.out B4.out).alloc _) ⟨w4.heap.size, 0, none⟩ 1 1 [.string a, .string a] rfl rfl (cell_list_new w4 _ _ rfl _) (by simp [Value.oneCell']) (by unfold maxLen; omega) (by omega) (by simp; omega) ?_; intro v9 w9 hown9 hgrow9 hnil9)
              go_roundw
              case rel => exact ⟨k + 1, rs ++ [(a.data.toList, a.data.toList)], a, by omega, by go_num, rfl, HNx.out, by omega, by rw [cellsE_snoc]; simp only [ba_mk]; exact hown9, own_after ((own_then HO.out B4.out).alloc _) hgrow9 ((HB.out.then B4.out).alloc _) (Nat.le_refl _)⟩
              case measure => simp [intOf]; omega
            · have ek : (0 : Int) < (k : Int) := by omega
              have hk1 : 0 < k := by omega
              have HLN := Lib.hid (HRn.out.natB hk1)
              clear hk0
              by_cases hfar : valN lt.data.toList + 1 < valN a.data.toList
              · have HNx := Lib.hid (HRn.out.next HX.out HRun.out (.inr hfar) (t := a) rfl)
                have HFo : Hid (decide (valN lt.data.toList + 1 < valN a.data.toList) = true) := decide_eq_true hfar
                clear hfar
                go_wp2_with fail
                (go_at_call 38; refine (follows_is lt a true HLN.out HNa.out HFo.out _ hlt9 has).mono ?_; rintro e w5 ⟨rfl, hb5⟩)
                have B5 := Lib.hid (B4.out.then hb5)
                have hsw5 : W1.heap.size ≤ w5.heap.size := Nat.le_trans hszr B5.out.size
                clear hb5
                go_wp2_with (at_builtin; refine wpList_append_own _ rfl _ _ 75 rfl W1.heap.size 81 i0 (.agg #[.string ByteArray.empty, .string ByteArray.empty]) 2 32 Tryz.underlying75 hi0 hz0 hz1 hz2 rfl (by decide) _ k (cellsE rs) rfl ((own_then HO.out B5.out).alloc _) ⟨w5.heap.size, 0, none⟩ 1 1 [.string a, .string a] rfl rfl (cell_list_new w5 _ _ rfl _) (by simp [Value.oneCell']) (by unfold maxLen; omega) (by omega) (by simp; omega) ?_; intro v9 w9 hown9 hgrow9 hnil9)
                go_roundw
                case rel => exact ⟨k + 1, rs ++ [(a.data.toList, a.data.toList)], a, by omega, by go_num, rfl, HNx.out, by omega, by rw [cellsE_snoc]; simp only [ba_mk]; exact hown9, own_after ((own_then HO.out B5.out).alloc _) hgrow9 ((HB.out.then B5.out).alloc _) (Nat.le_refl _)⟩
                case measure => simp [intOf]; omega
              · have HF := Lib.hid (pl_form HS.out (by rw [HLL.out]; exact HRn.out.near HX.out HRun.out hk1 hfar))
                have HFo : Hid (decide (valN lt.data.toList + 1 < valN a.data.toList) = false) := decide_eq_false hfar
                clear hfar
                go_wp2_with fail
                (go_at_call 38; refine (follows_is lt a false HLN.out HNa.out HFo.out _ hlt9 has).mono ?_; rintro e w5 ⟨rfl, hb5⟩)
                have B5 := Lib.hid (B4.out.then hb5)
                have hsw5 : W1.heap.size ≤ w5.heap.size := Nat.le_trans hszr B5.out.size
                clear hb5
                go_wp2_with fail
                go_ret2
                unfold PlPost
                rw [HF.out.1, HF.out.2]
                exact ⟨_, rfl, .inl ⟨rfl, _, _, rfl⟩, O1.out.then (HB.out.then B5.out)⟩
        · obtain ⟨a, ha⟩ : ∃ a : ByteArray, a.data.toList = A := ⟨⟨A.toArray⟩, rfl⟩
          obtain ⟨b, hb⟩ : ∃ b : ByteArray, b.data.toList = Bb := ⟨⟨Bb.toArray⟩, rfl⟩
          subst ha hb
          have HC : Hid (Lib.cut x.data.toList [45] = (a.data.toList, b.data.toList, true)) := hcut
          have hsz := congrArg List.length hsplit
          rw [List.length_append, List.length_cons, ba_len, ba_len, ba_len] at hsz
          have has : a.size ≤ 9000 := by omega
          have hbs : b.size ≤ 9000 := by omega
          have hrun := run_double (b := b.data.toList) hno
          rw [← hsplit] at hrun
          have HNo := Lib.hid hno
          clear hcut hno hsplit hsz
          cases hd : decimalB a.data.toList with
          | false =>
            have HDa := Lib.hid hd
            have HF := Lib.hid (pl_form HS.out (by rw [HLL.out]; exact HRn.out.bad HX.out (by rw [hrun, if_neg (by rw [hd]; rintro ⟨h, _⟩; cases h)])))
            clear hd hrun
            go_wp2_with fail
            (go_at_call 35; refine (cutM_is x a b true HC.out _ hxs (HG.out.below (HB.out.then B1.out))).mono ?_; rintro e w2 ⟨rfl, hb2⟩)
            have B2 := Lib.hid (B1.out.then hb2)
            have hsw2 : W1.heap.size ≤ w2.heap.size := Nat.le_trans hszr B2.out.size
            clear hb2
            go_wp2_with fail
            (go_at_call 36; refine (isDecimal_is a false HDa.out _ has).mono ?_; rintro e w3 ⟨rfl, hb3⟩)
            have B3 := Lib.hid (B2.out.then hb3)
            have hsw3 : W1.heap.size ≤ w3.heap.size := Nat.le_trans hszr B3.out.size
            clear hb3
            go_wp2_with fail
            go_ret2
            unfold PlPost
            rw [HF.out.1, HF.out.2]
            exact ⟨_, rfl, .inl ⟨rfl, _, _, rfl⟩, O1.out.then (HB.out.then B3.out)⟩
          | true =>
            have HDa := Lib.hid hd
            have HNa : Hid (natB a.data.toList = true) := by
              rw [Hid, Wd.natB_dec HNo.out]; exact hd
            cases he : decimalB b.data.toList with
            | false =>
              have HDb := Lib.hid he
              have HF := Lib.hid (pl_form HS.out (by rw [HLL.out]; exact HRn.out.bad HX.out (by rw [hrun, if_neg (by rintro ⟨_, h, _⟩; have := (Wd.natB_val h).1; rw [he] at this; cases this)])))
              clear hd he hrun
              go_wp2_with fail
              (go_at_call 35; refine (cutM_is x a b true HC.out _ hxs (HG.out.below (HB.out.then B1.out))).mono ?_; rintro e w2 ⟨rfl, hb2⟩)
              have B2 := Lib.hid (B1.out.then hb2)
              have hsw2 : W1.heap.size ≤ w2.heap.size := Nat.le_trans hszr B2.out.size
              clear hb2
              go_wp2_with fail
              (go_at_call 36; refine (isDecimal_is a true HDa.out _ has).mono ?_; rintro e w3 ⟨rfl, hb3⟩)
              have B3 := Lib.hid (B2.out.then hb3)
              have hsw3 : W1.heap.size ≤ w3.heap.size := Nat.le_trans hszr B3.out.size
              clear hb3
              go_wp2_with fail
              (go_at_call 36; refine (isDecimal_is b false HDb.out _ hbs).mono ?_; rintro e w4 ⟨rfl, hb4⟩)
              have B4 := Lib.hid (B3.out.then hb4)
              have hsw4 : W1.heap.size ≤ w4.heap.size := Nat.le_trans hszr B4.out.size
              clear hb4
              go_wp2_with fail
              go_ret2
              unfold PlPost
              rw [HF.out.1, HF.out.2]
              exact ⟨_, rfl, .inl ⟨rfl, _, _, rfl⟩, O1.out.then (HB.out.then B4.out)⟩
            | true =>
              have HDb := Lib.hid he
              have hb0 : 0 < b.size := by
                rcases Nat.eq_zero_or_pos b.size with h | h
                · rw [ba_nil h] at he; cases he
                · exact h
              obtain ⟨q, hq⟩ : ∃ q : Nat, b[0].toNat = q := ⟨_, rfl⟩
              have HHd : Hid (b.data.toList.head? = some 45 ↔ q = 45) := by
                rw [Hid, ba_cons b hb0, List.head?_cons, Option.some.injEq, ← hq, ← UInt8.toNat_inj]; rfl
              have hb0i : (0 : Int) < (b.size : Int) := by omega
              by_cases hq45 : q = 45
              · have HF := Lib.hid (pl_form HS.out (by rw [HLL.out]; exact HRn.out.bad HX.out (by rw [hrun, if_neg (by rintro ⟨_, h, _⟩; exact (nat_head he).1 h (HHd.out.2 hq45))])))
                subst hq45
                clear hd he hrun
                go_wp2_with fail
                (go_at_call 35; refine (cutM_is x a b true HC.out _ hxs (HG.out.below (HB.out.then B1.out))).mono ?_; rintro e w2 ⟨rfl, hb2⟩)
                have B2 := Lib.hid (B1.out.then hb2)
                have hsw2 : W1.heap.size ≤ w2.heap.size := Nat.le_trans hszr B2.out.size
                clear hb2
                go_wp2_with fail
                (go_at_call 36; refine (isDecimal_is a true HDa.out _ has).mono ?_; rintro e w3 ⟨rfl, hb3⟩)
                have B3 := Lib.hid (B2.out.then hb3)
                have hsw3 : W1.heap.size ≤ w3.heap.size := Nat.le_trans hszr B3.out.size
                clear hb3
                go_wp2_with fail
                (go_at_call 36; refine (isDecimal_is b true HDb.out _ hbs).mono ?_; rintro e w4 ⟨rfl, hb4⟩)
                have B4 := Lib.hid (B3.out.then hb4)
                have hsw4 : W1.heap.size ≤ w4.heap.size := Nat.le_trans hszr B4.out.size
                clear hb4
                go_wp2_with fail
                go_ret2
                unfold PlPost
                rw [HF.out.1, HF.out.2]
                exact ⟨_, rfl, .inl ⟨rfl, _, _, rfl⟩, O1.out.then (HB.out.then B4.out)⟩
              · have HNb : Hid (natB b.data.toList = true) := (nat_head he).2 (fun e => hq45 (HHd.out.1 e))
                have eq45 : ((q : Int) == 45) = false := by rw [beq_eq_false_iff_ne]; omega
                obtain ⟨c, hc⟩ : ∃ c, Wd.cmpI a.data.toList b.data.toList = c := ⟨_, rfl⟩
                have HCm := Lib.hid hc
                have hcl := Wd.cmp_lt HNa.out HNb.out
                rw [hc] at hcl
                have HCl := Lib.hid hcl
                clear hc hcl hq45
                by_cases hc0 : c < 0
                · have HRun : Hid (runOf x.data.toList = some (a.data.toList, b.data.toList)) := by rw [Hid, hrun, if_pos ⟨hd, HNb.out, HCl.out.1 hc0⟩]
                  have ec0 : decide ((0 : Int) ≤ c) = false := decide_eq_false (by omega)
                  clear hd he hrun
                  go_wp2_with fail
                  (go_at_call 35; refine (cutM_is x a b true HC.out _ hxs (HG.out.below (HB.out.then B1.out))).mono ?_; rintro e w2 ⟨rfl, hb2⟩)
                  have B2 := Lib.hid (B1.out.then hb2)
                  have hsw2 : W1.heap.size ≤ w2.heap.size := Nat.le_trans hszr B2.out.size
                  clear hb2
                  go_wp2_with fail
                  (go_at_call 36; refine (isDecimal_is a true HDa.out _ has).mono ?_; rintro e w3 ⟨rfl, hb3⟩)
                  have B3 := Lib.hid (B2.out.then hb3)
                  have hsw3 : W1.heap.size ≤ w3.heap.size := Nat.le_trans hszr B3.out.size
                  clear hb3
                  go_wp2_with fail
                  (go_at_call 36; refine (isDecimal_is b true HDb.out _ hbs).mono ?_; rintro e w4 ⟨rfl, hb4⟩)
                  have B4 := Lib.hid (B3.out.then hb4)
                  have hsw4 : W1.heap.size ≤ w4.heap.size := Nat.le_trans hszr B4.out.size
                  clear hb4
                  go_wp2_with fail
                  (go_at_call 37; refine (cmp_is a b c HCm.out _ (by omega) (by omega)).mono ?_; rintro e w5 ⟨rfl, rfl⟩)
                  by_cases hk0 : k = 0
                  · have HNx := Lib.hid (HRn.out.next HX.out HRun.out (.inl hk0) (t := b) rfl)
                    have ek : decide ((0 : Int) < (k : Int)) = false := decide_eq_false (by omega)
                    have ekn : decide (0 < k) = false := decide_eq_false (by omega)
                    clear hk0
                    go_wp2_with (at_builtin; refine wpList_append_own _ rfl _ _ 75 rfl W1.heap.size 81 i0 (.agg #[.string ByteArray.empty, .string ByteArray.empty]) 2 32 Tryz.underlying75 hi0 hz0 hz1 hz2 rfl (by decide) _ k (cellsE rs) rfl ((own_then HO.out B4.out).alloc _) ⟨w4.heap.size, 0, none⟩ 1 1 [.string a, .string b] rfl rfl (cell_list_new w4 _ _ rfl _) (by simp [Value.oneCell']) (by unfold maxLen; omega) (by omega) (by simp; omega) ?_; intro v9 w9 hown9 hgrow9 hnil9)
                    go_roundw
                    case rel => exact ⟨k + 1, rs ++ [(a.data.toList, b.data.toList)], b, by omega, by go_num, rfl, HNx.out, by omega, by rw [cellsE_snoc]; simp only [ba_mk]; exact hown9, own_after ((own_then HO.out B4.out).alloc _) hgrow9 ((HB.out.then B4.out).alloc _) (Nat.le_refl _)⟩
                    case measure => simp [intOf]; omega
                  · have ek : (0 : Int) < (k : Int) := by omega
                    have hk1 : 0 < k := by omega
                    have HLN := Lib.hid (HRn.out.natB hk1)
                    clear hk0
                    by_cases hfar : valN lt.data.toList + 1 < valN a.data.toList
                    · have HNx := Lib.hid (HRn.out.next HX.out HRun.out (.inr hfar) (t := b) rfl)
                      have HFo : Hid (decide (valN lt.data.toList + 1 < valN a.data.toList) = true) := decide_eq_true hfar
                      clear hfar
                      go_wp2_with fail
                      (go_at_call 38; refine (follows_is lt a true HLN.out HNa.out HFo.out _ hlt9 has).mono ?_; rintro e w5 ⟨rfl, hb5⟩)
                      have B5 := Lib.hid (B4.out.then hb5)
                      have hsw5 : W1.heap.size ≤ w5.heap.size := Nat.le_trans hszr B5.out.size
                      clear hb5
                      go_wp2_with (at_builtin; refine wpList_append_own _ rfl _ _ 75 rfl W1.heap.size 81 i0 (.agg #[.string ByteArray.empty, .string ByteArray.empty]) 2 32 Tryz.underlying75 hi0 hz0 hz1 hz2 rfl (by decide) _ k (cellsE rs) rfl ((own_then HO.out B5.out).alloc _) ⟨w5.heap.size, 0, none⟩ 1 1 [.string a, .string b] rfl rfl (cell_list_new w5 _ _ rfl _) (by simp [Value.oneCell']) (by unfold maxLen; omega) (by omega) (by simp; omega) ?_; intro v9 w9 hown9 hgrow9 hnil9)
                      go_roundw
                      case rel => exact ⟨k + 1, rs ++ [(a.data.toList, b.data.toList)], b, by omega, by go_num, rfl, HNx.out, by omega, by rw [cellsE_snoc]; simp only [ba_mk]; exact hown9, own_after ((own_then HO.out B5.out).alloc _) hgrow9 ((HB.out.then B5.out).alloc _) (Nat.le_refl _)⟩
                      case measure => simp [intOf]; omega
                    · have HF := Lib.hid (pl_form HS.out (by rw [HLL.out]; exact HRn.out.near HX.out HRun.out hk1 hfar))
                      have HFo : Hid (decide (valN lt.data.toList + 1 < valN a.data.toList) = false) := decide_eq_false hfar
                      clear hfar
                      go_wp2_with fail
                      (go_at_call 38; refine (follows_is lt a false HLN.out HNa.out HFo.out _ hlt9 has).mono ?_; rintro e w5 ⟨rfl, hb5⟩)
                      have B5 := Lib.hid (B4.out.then hb5)
                      have hsw5 : W1.heap.size ≤ w5.heap.size := Nat.le_trans hszr B5.out.size
                      clear hb5
                      go_wp2_with fail
                      go_ret2
                      unfold PlPost
                      rw [HF.out.1, HF.out.2]
                      exact ⟨_, rfl, .inl ⟨rfl, _, _, rfl⟩, O1.out.then (HB.out.then B5.out)⟩
                · have HF := Lib.hid (pl_form HS.out (by rw [HLL.out]; exact HRn.out.bad HX.out (by rw [hrun, if_neg (by rintro ⟨_, _, h⟩; exact hc0 (HCl.out.2 h))])))
                  have ec0 : (0 : Int) ≤ c := by omega
                  clear hd he hrun
                  go_wp2_with fail
                  (go_at_call 35; refine (cutM_is x a b true HC.out _ hxs (HG.out.below (HB.out.then B1.out))).mono ?_; rintro e w2 ⟨rfl, hb2⟩)
                  have B2 := Lib.hid (B1.out.then hb2)
                  have hsw2 : W1.heap.size ≤ w2.heap.size := Nat.le_trans hszr B2.out.size
                  clear hb2
                  go_wp2_with fail
                  (go_at_call 36; refine (isDecimal_is a true HDa.out _ has).mono ?_; rintro e w3 ⟨rfl, hb3⟩)
                  have B3 := Lib.hid (B2.out.then hb3)
                  have hsw3 : W1.heap.size ≤ w3.heap.size := Nat.le_trans hszr B3.out.size
                  clear hb3
                  go_wp2_with fail
                  (go_at_call 36; refine (isDecimal_is b true HDb.out _ hbs).mono ?_; rintro e w4 ⟨rfl, hb4⟩)
                  have B4 := Lib.hid (B3.out.then hb4)
                  have hsw4 : W1.heap.size ≤ w4.heap.size := Nat.le_trans hszr B4.out.size
                  clear hb4
                  go_wp2_with fail
                  (go_at_call 37; refine (cmp_is a b c HCm.out _ (by omega) (by omega)).mono ?_; rintro e w5 ⟨rfl, rfl⟩)
                  go_wp2_with fail
                  go_ret2
                  unfold PlPost
                  rw [HF.out.1, HF.out.2]
                  exact ⟨_, rfl, .inl ⟨rfl, _, _, rfl⟩, O1.out.then (HB.out.then B4.out)⟩
      · have el : decide (k < n) = false := by simpa using hlt
        obtain rfl : k = n := by omega
        have HDn := Lib.hid (HRn.out.done (by rw [HN.out]; exact Nat.le_refl _))
        have HLN := Lib.hid (HRn.out.natB hn0)
        have HLV := Lib.hid (HRn.out.lastV hn0)
        have HRl := Lib.hid HRn.out.len
        have HGd := Lib.hid (Wd.runsF_good _ _ _ HDn.out)
        obtain ⟨c, hc⟩ : ∃ c, Wd.cmpI lt.data.toList (Lib.itoa 1000000000) = c := ⟨_, rfl⟩
        have hcg := Wd.cmp_gt HLN.out (Wd.itoa_natB 1000000000).1
        have hc' : Wd.cmpI lt.data.toList (Lib.itoa ((1000000000 : Nat) : Int)) = c := hc
        rw [hc', (Wd.itoa_natB 1000000000).2] at hcg
        have HCm := Lib.hid hc
        have HCg := Lib.hid hcg
        have hEnd : Ends 1000000000 1000000000 := ⟨by decide, by decide⟩
        have HEnd := Lib.hid hEnd
        have hi9 : (Lib.itoa 1000000000).length ≤ 21 := itoa_le hEnd
        have HI9 := Lib.hid hi9
        have B1 : Hid (Ow wr wr) := Ow.refl _
        clear hc hc' hcg hEnd hi9 hlt hk
        rcases Joins.ownsRow_forms HO.out with ⟨rfl, h0⟩ | ⟨gE, cap, rfl⟩
        · exact absurd h0 (by omega)
        · by_cases hr9 : 1000000000 < valN lt.data.toList
          · have HF := Lib.hid (pl_range HS.out (by rw [HLL.out]; exact HDn.out) (by rw [HLV.out]; exact hr9))
            have ec : 0 < c := HCg.out.2 hr9
            clear hr9
            go_wp2_with fail
            (go_at_call 32; refine (itoa_any 1000000000 _ (HG.out.below (HB.out.then B1.out)) HEnd.out).mono ?_; rintro e w2 ⟨rfl, hb2⟩)
            have B2 := Lib.hid (B1.out.then hb2)
            have hsw2 : W1.heap.size ≤ w2.heap.size := Nat.le_trans hszr B2.out.size
            clear hb2
            go_wp2_with fail
            (go_at_call 37; refine (cmp_is lt _ c HCm.out _ (by omega) (by rw [← ba_len]; have := HI9.out; show (Lib.itoa 1000000000).length ≤ _; omega)).mono ?_; rintro e w3 ⟨rfl, rfl⟩)
            go_wp2_with fail
            go_ret2
            unfold PlPost
            rw [HF.out.1, HF.out.2]
            exact ⟨_, rfl, .inl ⟨rfl, _, _, rfl⟩, O1.out.then (HB.out.then B2.out)⟩
          · have ec : ¬ 0 < c := fun h => hr9 (HCg.out.1 h)
            have HR9 : Hid (¬ 1000000000 < lastV rs) := by rw [Hid, HLV.out]; exact hr9
            clear hr9
            go_wp2_with fail
            (go_at_call 32; refine (itoa_any 1000000000 _ (HG.out.below (HB.out.then B1.out)) HEnd.out).mono ?_; rintro e w2 ⟨rfl, hb2⟩)
            have B2 := Lib.hid (B1.out.then hb2)
            have hsw2 : W1.heap.size ≤ w2.heap.size := Nat.le_trans hszr B2.out.size
            clear hb2
            go_wp2_with fail
            (go_at_call 37; refine (cmp_is lt _ c HCm.out _ (by omega) (by rw [← ba_len]; have := HI9.out; show (Lib.itoa 1000000000).length ≤ _; omega)).mono ?_; rintro e w3 ⟨rfl, rfl⟩)
            have HOE := Lib.hid (own_then HO.out B2.out)
            have hgE : gE < w2.heap.size := (HOE.out.lt gE rfl).2
            have HE : Hid (∀ (j : Nat) (p : Pr), rs[j]? = some p → w2.cell? ⟨gE, j * 2, none⟩ = some (.string ⟨p.1.toArray⟩) ∧ w2.cell? ⟨gE, j * 2 + 1, none⟩ = some (.string ⟨p.2.toArray⟩)) := by
              intro j p hp
              have hj := (List.getElem?_eq_some_iff.1 hp).1
              rw [HRl.out] at hj
              obtain ⟨h1, h2⟩ := cellsE_at rs j p hp
              rw [HOE.out.cellAt (j * 2) (by omega), HOE.out.cellAt (j * 2 + 1) (by omega)]
              exact ⟨h1, h2⟩
            have OW := Lib.hid (O1.out.then (HB.out.then B2.out))
            go_wp2_with fail
            clear ec
            go_loopw [11, 13, 14, 15, 16, 17, 18, 84] (fun l _ _ _ _ _ _ idx wq => ∃ (j : Nat) (sa : Option Addr) (sc : Nat) (xs : List Int), j ≤ k ∧ idx = .int .i64 j ∧ l = .slice sa xs.length sc ∧ xs = expL (rs.take j) ∧ xs.length ≤ 500 ∧ wq.ownsRow w2.heap.size 3 1 (.slice sa xs.length sc) xs.length (xs.map (Value.int .i64)) ∧ Ow w2 wq) (fun _ _ _ _ _ _ _ idx _ => k - (intOf idx).toNat)
            case atStart => exact ⟨0, none, 0, [], by omega, rfl, rfl, rfl, by simp, World.ownsRow_nil _ _ _ _, Ow.refl _⟩
            case round =>
              obtain ⟨j, sa, sc, xs, hjk, rfl, rfl, hxs, hx5, hownq, hbq⟩ := hrel
              have HXs := Lib.hid hxs
              have HOq := Lib.hid hownq
              have HBq := Lib.hid hbq
              have hszq : w2.heap.size ≤ wr.heap.size := hbq.size
              clear hxs hownq hbq
              by_cases hj : j < k
              · obtain ⟨⟨pa, pb⟩, hp⟩ : ∃ p, rs[j]? = some p := ⟨rs[j]'(by rw [HRl.out]; exact hj), List.getElem?_eq_getElem (by rw [HRl.out]; exact hj)⟩
                have c0 := (HBq.out.cell (p := ⟨gE, j * 2, none⟩) hgE).trans (HE.out j _ hp).1
                have c1 := (HBq.out.cell (p := ⟨gE, j * 2 + 1, none⟩) hgE).trans (HE.out j _ hp).2
                simp only at c0 c1
                obtain ⟨a, ha⟩ : ∃ a : ByteArray, a = ⟨pa.toArray⟩ := ⟨_, rfl⟩
                obtain ⟨b, hb⟩ : ∃ b : ByteArray, b = ⟨pb.toArray⟩ := ⟨_, rfl⟩
                have HA : Hid (a.data.toList = pa) := by rw [ha]; rfl
                have HBb : Hid (b.data.toList = pb) := by rw [hb]; rfl
                rw [← ha] at c0
                rw [← hb] at c1
                obtain ⟨g1, g2, g3, g4⟩ := HGd.out.2 _ (List.mem_of_getElem? hp)
                simp only at g1 g2 g3 g4
                obtain ⟨na, hna⟩ : ∃ m, valN pa = m := ⟨_, rfl⟩
                obtain ⟨nb, hnb2⟩ : ∃ m, valN pb = m := ⟨_, rfl⟩
                rw [hna, hnb2] at g3
                have hb9 : nb ≤ 1000000000 := by have := HR9.out; omega
                have ha9 : na ≤ 1000000000 := by omega
                have HAt : Hid (natB a.data.toList = true ∧ valN a.data.toList = na) := by rw [HA.out]; exact ⟨g1, hna⟩
                have HBt : Hid (natB b.data.toList = true ∧ valN b.data.toList = nb) := by rw [HBb.out]; exact ⟨g2, hnb2⟩
                have HCn : Hid (cntP (pa, pb) = nb - na + 1) := by rw [Hid, cntP, hna, hnb2]
                have HP := Lib.hid hp
                have HVa := Lib.hid hna
                have elj : decide (j < k) = true := by simpa using hj
                have B1 : Hid (Ow wr (wr.alloc (.cells #[.string a, .string b] 81))) := (Ow.refl _).alloc _
                have HBx : Hid (∀ i u, (#[Value.string a, Value.string b] : Array Value)[i]? = some u → (wr.alloc (.cells #[.string a, .string b] 81)).cell? ⟨wr.heap.size, i, none⟩ = some u) := by
                  intro i u hu
                  rw [cell_of_row _ _ _ _ _ _ (heap_alloc_new wr _)]; exact hu
                have elen : (xs.length : Int) ≤ 500 := by omega
                clear ha hb hp g1 g2 g4 hna hnb2
                go_wp2_with fail
                (go_at_call 39; refine (atoi_is a na HAt.out.1 HAt.out.2 ha9 _).mono ?_; rintro e w5 ⟨rfl, hb5⟩)
                have hbx1 : w5.cell? ⟨wr.heap.size, 1, none⟩ = some (.string b) := (hb5.cell (p := ⟨wr.heap.size, 1, none⟩) (by simp)).trans (HBx.out 1 _ rfl)
                have B5 := Lib.hid (B1.out.then hb5)
                have hlt5 : wr.heap.size < w5.heap.size := Nat.lt_of_lt_of_le (by simp) hb5.size
                clear hb5
                go_wp2_with fail
                (go_at_call 39; refine (atoi_is b nb HBt.out.1 HBt.out.2 hb9 _).mono ?_; rintro e w6 ⟨rfl, hb6⟩)
                have B6 := Lib.hid (B5.out.then hb6)
                have hz6 : wr.heap.size ≤ w6.heap.size := B6.out.size
                clear hb6 hbx1
                by_cases hlong : 500 < xs.length + (nb - na + 1)
                · have HF := Lib.hid (pl_long HS.out (by rw [HLL.out]; exact HDn.out) HR9.out (by
                    rw [exp_take HP.out, List.length_append, List.length_append, Wd.expP_len, HCn.out, ← HXs.out]; omega))
                  have elo : (500 : Int) - (xs.length : Int) ≤ (nb : Int) - (na : Int) := by omega
                  clear hlong
                  go_wp2_with fail
                  go_ret2
                  unfold PlPost
                  rw [HF.out.1, HF.out.2]
                  exact ⟨_, rfl, .inl ⟨rfl, _, _, rfl⟩, OW.out.then (HBq.out.then B6.out)⟩
                · have elo : ¬ (500 : Int) - (xs.length : Int) ≤ (nb : Int) - (na : Int) := by omega
                  have hsum : xs.length + (nb - na + 1) ≤ 500 := by omega
                  have HO6 := Lib.hid (own_then HOq.out B6.out)
                  have HB6 := Lib.hid (HBq.out.then B6.out)
                  clear hlong
                  go_wp2_with fail
                  go_loopw [11, 18] (fun l m wz => ∃ (i : Nat) (sb : Option Addr) (sd : Nat), i ≤ nb - na + 1 ∧ m = .int .i64 ((na + i : Nat) : Int) ∧ l = .slice sb (xs.length + i) sd ∧ wz.ownsRow w2.heap.size 3 1 (.slice sb (xs.length + i) sd) (xs.length + i) ((xs ++ (expP (pa, pb)).take i).map (Value.int .i64)) ∧ Ow w2 wz) (fun _ m _ => (nb + 1) - (intOf m).toNat)
                  case atStart => exact ⟨0, sa, sc, by omega, rfl, rfl, by simpa using HO6.out, HB6.out⟩
                  case round =>
                    obtain ⟨i, sb, sd, hi, rfl, rfl, hownz, hbz⟩ := hrel
                    have HOz := Lib.hid hownz
                    have HBz := Lib.hid hbz
                    have hszz : w2.heap.size ≤ wr.heap.size := hbz.size
                    clear hownz hbz
                    by_cases hi2 : i < nb - na + 1
                    · have eli : ((na + i : Nat) : Int) ≤ (nb : Int) := by omega
                      have HTk := Lib.hid (exp_take_snoc (p := (pa, pb)) (j := i) (by rw [HCn.out]; exact hi2))
                      have HMv : Hid (valN (pa, pb).1 = na) := HVa.out
                      go_wp2_with (at_builtin; refine wpList_append_own _ rfl _ _ 23 rfl w2.heap.size 3 j0 (.int .i64 0) 1 8 Tryz.underlying23 hj0 hy0 hy1 hy2 rfl (by decide) _ (xs.length + i) ((xs ++ (expP (pa, pb)).take i).map (Value.int .i64)) rfl (HOz.out.alloc _) ⟨wr.heap.size, 0, none⟩ 1 1 [.int .i64 ((na + i : Nat) : Int)] rfl rfl (cell_one_new _ _ _) (by simp [Value.oneCell']) (by unfold maxLen; omega) (by omega) (by simp; omega) ?_; intro v9 w9 hown9 hgrow9 hnil9; obtain ⟨sb', sd', hv9⟩ := forms hown9)
                      go_roundw
                      case rel => exact ⟨i + 1, sb', sd', by omega, by go_num, rfl, by rw [hv9] at hown9; rw [HTk.out, HMv.out]; simpa [Nat.add_assoc] using hown9, own_after (HOz.out.alloc _) hgrow9 (HBz.out.alloc _) (Nat.le_refl _)⟩
                      case measure => simp [intOf]; omega
                    · have eli : ¬ ((na + i : Nat) : Int) ≤ (nb : Int) := by omega
                      obtain rfl : i = nb - na + 1 := by omega
                      have HTk : Hid (xs ++ (expP (pa, pb)).take (nb - na + 1) = expL (rs.take (j + 1))) := by
                        rw [Hid, exp_next HP.out, HXs.out, List.take_of_length_le (l := expP (pa, pb)) (by rw [Wd.expP_len, HCn.out]; exact Nat.le_refl _)]
                      have HLe : Hid ((expL (rs.take (j + 1))).length = xs.length + (nb - na + 1)) := by
                        rw [Hid, ← HTk.out, List.length_append, List.length_take, Wd.expP_len, HCn.out]; omega
                      clear hi hi2
                      go_wp2_with fail
                      go_roundw
                      case rel => exact ⟨j + 1, sb, sd, expL (rs.take (j + 1)), by omega, by go_num, by rw [HLe.out], rfl, by rw [HLe.out]; exact hsum, by rw [HLe.out, ← HTk.out]; exact HOz.out, HBz.out⟩
                      case measure => simp [intOf]; omega
              · have elj : decide (j < k) = false := by simpa using hj
                have HXe : Hid (xs = expL rs) := by rw [Hid, HXs.out, List.take_of_length_le (by rw [HRl.out]; omega)]
                have HF := Lib.hid (pl_ok HS.out (by rw [HLL.out]; exact HDn.out) HR9.out (by rw [← HXe.out]; omega))
                clear hj
                go_wp2_with fail
                go_ret2
                unfold PlPost
                rw [HF.out.1, HF.out.2, ← HXe.out]
                exact ⟨_, rfl, own_ints HOq.out, OW.out.then HBq.out⟩
end Go.Proofs.YtabopillicdjaaaGreatDoor

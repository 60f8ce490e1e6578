/- strings.CutPrefix. Package ops: Print. -/
import Derived.Test.YtaojogaakhidhaaGreatDoorQ3
import Derived.Test.YtaojogaakhidhaaGreatDoorOpUnh
import Derived.Lib.Strings
import Derived.Lib.Slices
import Derived.Laws.Strings3
import Derived.Test.YtaojogaakhidhaaGreatDoorOpChk
import Derived.Deep.DeepCutAuto
namespace Go.Proofs.YtaojogaakhidhaaGreatDoor
open Go.RowKit
set_option maxHeartbeats 1000000 in
theorem hasP_any (s p : ByteArray) (w : World) :
    Calls Tryz.prog 76 #[.string s, .string p] w fun e w' => e = .returned (.bool (Lib.hasPrefix s.data.toList p.data.toList)) ∧ w' = w := by
  rw [← Lib.hasPrefix_of_take, ← Lib.size_eq, ← Lib.size_eq]
  go_enter Tryz.func76, Tryz.ntmps76
  go_wp2
  · rename_i h
    go_ret
    refine ⟨?_, rfl⟩
    show Ending.returned (Value.bool ((s.extract 0 p.size).toList == p.toList)) = _
    rw [Lib.extract_toList, Lib.toList_data]
    simp [h]
  · rename_i h
    go_ret
    refine ⟨?_, rfl⟩
    show Ending.returned (Value.bool false) = _
    simp [h]
theorem hasP_le {s p : ByteArray} (h : Lib.hasPrefix s.data.toList p.data.toList = true) : p.size ≤ s.size := by
  rw [← Lib.hasPrefix_of_take, ← Lib.size_eq, ← Lib.size_eq] at h
  simp at h
  exact h.1
set_option maxHeartbeats 1000000 in
theorem cutS_yes (s p : ByteArray) (h : Lib.hasPrefix s.data.toList p.data.toList = true) (w : World) :
    Calls Tryz.prog 54 #[.string s, .string p] w fun e w' => e = .returned (.tuple #[.string (s.extract p.size s.size), .bool true]) ∧ w' = w := by
  have hle := hasP_le h
  go_enter Tryz.func54, Tryz.ntmps54
  go_wp2_with (go_at_call 76; refine (hasP_any _ _ _).mono ?_; rintro e w1 ⟨rfl, hw⟩; rw [hw, h])
  go_ret2
  exact ⟨rfl, rfl⟩
set_option maxHeartbeats 1000000 in
theorem cutS_no (s p : ByteArray) (h : Lib.hasPrefix s.data.toList p.data.toList = false) (w : World) :
    Calls Tryz.prog 54 #[.string s, .string p] w fun e w' => e = .returned (.tuple #[.string s, .bool false]) ∧ w' = w := by
  go_enter Tryz.func54, Tryz.ntmps54
  go_wp2_with (go_at_call 76; refine (hasP_any _ _ _).mono ?_; rintro e w1 ⟨rfl, hw⟩; rw [hw, h])
  go_ret2
  exact ⟨rfl, rfl⟩
theorem cut_yes (s p : ByteArray) (h : Lib.hasPrefix s.data.toList p.data.toList = true) (w : World) :
    Calls Tryz.prog 33 #[.string s, .string p] w fun e w' => e = .returned (.tuple #[.string (s.extract p.size s.size), .bool true]) ∧ w' = w := by
  go_enter Tryz.func33, Tryz.ntmps33
  go_wp2_with (go_at_call 54; refine (cutS_yes _ _ h _).mono ?_; rintro e w1 ⟨rfl, hw⟩; rw [hw])
  go_ret2
  exact ⟨rfl, rfl⟩
theorem cut_no (s p : ByteArray) (h : Lib.hasPrefix s.data.toList p.data.toList = false) (w : World) :
    Calls Tryz.prog 33 #[.string s, .string p] w fun e w' => e = .returned (.tuple #[.string s, .bool false]) ∧ w' = w := by
  go_enter Tryz.func33, Tryz.ntmps33
  go_wp2_with (go_at_call 54; refine (cutS_no _ _ h _).mono ?_; rintro e w1 ⟨rfl, hw⟩; rw [hw])
  go_ret2
  exact ⟨rfl, rfl⟩
theorem itoa_any (n : Int) (w : World) (hg : Gl w) (h0 : Ends n n) : Calls Tryz.prog 29 #[.int .i64 n] w fun e w' => e = .returned (.string ⟨(Lib.itoa n).toArray⟩) ∧ Ow w w' :=
  (Tryz.strconv_Itoa n h0.1 h0.2 w hg.pow).mono fun _ _ ⟨h1, h2⟩ => ⟨h1, (Ow.refl w).grown h2⟩
end Go.Proofs.YtaojogaakhidhaaGreatDoor
namespace Go.Proofs.YtaojogaakhidhaaGreatDoor
open Go.RowKit
open Sc (OC OA num setN inR WfC chkE printS lineT prT fieldS hexL)

theorem str_of {l : List UInt8} {u : ByteArray} (h : u.data.toList = l) : u = ⟨l.toArray⟩ := by
  subst h; simp
theorem ba_len' {u : ByteArray} {l : List UInt8} (h : u.data.toList = l) : u.size = l.length := by rw [← h, ba_len]
set_option maxRecDepth 100000 in
set_option maxHeartbeats 2000000 in
theorem print_bad (c : OC) (h : chkE c ≠ 0) (w : World) :
    Calls Tryz.prog 24 #[.agg (ocells c)] w fun e w' => e = .returned (.tuple #[.string ⟨#[]⟩, .int .i64 (chkE c)]) ∧ Ow w w' := by
  have HC := Lib.hid (fun W => check_any c _ rfl W)
  obtain ⟨m, hm⟩ : ∃ m, chkE c = m := ⟨_, rfl⟩
  rw [hm] at h HC
  rw [hm]
  have hb : (m == 0) = false := beq_eq_false_iff_ne.2 h
  clear hm h
  unfold ocells at HC ⊢
  go_enter Tryz.func24, Tryz.ntmps24
  go_wp2_with (go_at_call 32; refine (HC.out _).mono ?_; rintro e w1 ⟨rfl, hb1⟩)
  go_ret2
  exact ⟨rfl, Ow.then ((Ow.refl _).alloc _) hb1⟩
/-- What stands in the loop over a kind's fields. -/
structure PI (w : World) (c : OC) (n g b : Nat) (nm : ByteArray) (q : Option Addr) (l : Nat) (W : World) : Prop where
  ow : Ow w W
  box : Bx w.heap.size (ocells c) 25 W
  blk : Bx b #[.string nm, .slice q l l] 49 W
  row : n ≤ 10 → q = some ⟨g, 0, none⟩ ∧ Bx g (intCells (kfInts n)) 3 W
theorem PI.then {w : World} {c : OC} {n g b : Nat} {nm : ByteArray} {q : Option Addr} {l : Nat} {W W' : World} (h : PI w c n g b nm q l W) (hb : Ow W W') : PI w c n g b nm q l W' := ⟨Ow.then h.ow hb, h.box.then hb, h.blk.then hb, fun h10 => ⟨(h.row h10).1, (h.row h10).2.then hb⟩⟩
theorem PI.cell {w : World} {c : OC} {n g b i : Nat} {nm : ByteArray} {q : Option Addr} {l : Nat} {W : World} (h : PI w c n g b nm q l W) (h10 : n ≤ 10) {j : Nat} (hj : (Sc.kf (n : Int))[i]? = some j) : W.cell? ⟨g, i, none⟩ = some (.int .i64 j) := by
  refine (h.row h10).2.at ?_
  simp [intCells, kfInts, hj]
theorem ten_of {n i : Nat} (h11 : n ≤ 11) (h : i < (Sc.kf (n : Int)).length) : n ≤ 10 := by
  rcases Nat.lt_or_ge 10 n with h2 | h2
  · obtain rfl : n = 11 := by omega
    exact absurd h (Nat.not_lt_zero _)
  · exact h2
set_option maxRecDepth 100000 in
set_option maxHeartbeats 4000000 in
theorem print_ok (c : OC) (hw : WfC c) (h : chkE c = 0) (w : World) (hg : Gl w) (hd : Db w) :
    Calls Tryz.prog 24 #[.agg (ocells c)] w fun e w' => e = .returned (.tuple #[.string ⟨(lineT c).toArray⟩, .int .i64 0]) ∧ Ow w w' := by
  have HC := Lib.hid (fun W => check_any c _ h W)
  have hk := (Sc.chk_parts h).1
  have HW := Lib.hid hw
  have H0 := Lib.hid h
  have HG := Lib.hid hg
  have HD := Lib.hid hd
  have HLT : Hid (lineT c = prT c (Sc.kf c.k).length) := (Sc.prT_all (Nat.le_refl _)).symm
  obtain ⟨T, hT⟩ : ∃ T, lineT c = T := ⟨_, rfl⟩
  rw [hT]
  have HTT := Lib.hid hT
  clear hw h hg hd hT
  obtain ⟨k, a, b, f, p, r, v⟩ := c
  unfold ocells at HC ⊢
  simp only at hk ⊢ HC
  obtain ⟨n, rfl⟩ : ∃ n : Nat, k = n := ⟨k.toNat, by omega⟩
  obtain ⟨vn, rfl⟩ : ∃ m : Nat, v = m := ⟨v.toNat, by have := HW.out.1; simp only at this; omega⟩
  have hv64 : vn < 18446744073709551616 := by have := HW.out.2; simp only at this; omega
  have hk3 := Sc.kf_three (n : Int)
  have HFd := fld_row
  have HR := Lib.hid (fun g => idx_row g n (by omega) (by omega))
  go_enter Tryz.func24, Tryz.ntmps24
  go_wp2_with (go_at_call 32; refine (HC.out _).mono ?_; rintro e w1 ⟨rfl, hb1⟩)
  have HB1 : Hid (Bx w.heap.size (ocells ⟨n, a, b, f, p, r, vn⟩) 25 w1) := (Bx.new w _ _).then hb1
  have HO1 : Hid (Ow w w1) := Ow.then ((Ow.refl _).alloc _) hb1
  have r0 : w1.cell? ⟨w.heap.size, 0, none⟩ = some (.int .i64 n) := HB1.out.at rfl
  clear hb1
  have hlt1 : w.heap.size < w1.heap.size := HB1.out.lt
  go_upto_region 4 with fail
  go_cut [5] from 9 (fun x wx => ∃ (B g l : Nat) (nm : ByteArray) (q : Option Addr), x = .pointer (some ⟨B, 0, none⟩) ∧ l = (Sc.kf (n : Int)).length ∧ Hid (nm.data.toList = Sc.kw (n : Int)) ∧ Hid (PI w ⟨n, a, b, f, p, r, vn⟩ n g B nm q l wx))
  case first =>
    go_region_with (go_at_call 17; refine (table_any _).mono ?_; rintro e w2 ⟨g, rfl, hb2, hg⟩; obtain ⟨nm, q, len, HI, hlen, hq, hnm⟩ := HR.out g; have hb3 : Ow w1 w2 := (by first | exact Ow.then (Ow.refl _).drew hb2 | exact Ow.then ((Ow.refl _).drewN _) hb2 | exact Ow.then ((Ow.refl _).drew.alloc _) hb2 | exact Ow.then ((Ow.refl _).drew.alloc _).drew hb2 | exact Ow.then (((Ow.refl _).drewN _).alloc _) hb2 | exact Ow.then (((Ow.refl _).drewN _).alloc _).drew hb2 | exact Ow.then (((Ow.refl _).drewN _).alloc _ |>.drewN _) hb2 | exact Ow.then ((Ow.refl _).alloc _).drew hb2); have r1 : w2.cell? ⟨w.heap.size, 0, none⟩ = some (.int .i64 n) := (HB1.out.then hb3).at rfl; have hlt2 : w.heap.size < w2.heap.size := (HB1.out.then hb3).lt; first | (have hS : Bx w1.heap.size #[.string ⟨#[]⟩, .slice none 0 0] 49 w2 := (by first | exact Bx.then (Bx.new w1.drew _ _) hb2 | exact Bx.then ((Bx.new w1.drew _ _).drewN _) hb2 | exact Bx.then (Bx.new (w1.drewN _) _ _) hb2 | exact Bx.then ((Bx.new (w1.drewN _) _ _).drewN _) hb2); have s0 := hS.at (i := 0) rfl; have s1 := hS.at (i := 1) rfl; have z0 := hS.z 0; have z1 := hS.z 1) | skip)
    all_goals
      go_wp2_with fail
      go_meet
    all_goals first
      | exact ⟨_, g n, _, nm, q, rfl, rfl, hnm, (Ow.then HO1.out hb3).alloc _, (HB1.out.then hb3).alloc _, Bx.new _ _ _, fun h10 => ⟨hq h10, (hg n (by omega) h10).2.alloc _⟩⟩
      | exact ⟨_, g n, _, nm, q, rfl, rfl, hnm, ((Ow.then HO1.out hb3).set HO1.out.size _ _).set HO1.out.size _ _, ((HB1.out.then hb3).other (Nat.ne_of_lt hlt1) _ _).other (Nat.ne_of_lt hlt1) _ _, (hS.set 0 _).set 1 _, fun h10 => ⟨hq h10, ((hg n (by omega) h10).2.other (by have := (hg n (by omega) h10).1; simp at this; omega) _ _).other (by have := (hg n (by omega) h10).1; simp at this; omega) _ _⟩⟩
  case rest =>
    obtain ⟨B, g, l, nm, q, rfl, rfl, HN, HP⟩ := hcut
    have c0 := HP.out.blk.at (i := 0) rfl
    have c1 := HP.out.blk.at (i := 1) rfl
    clear r0 hlt1 HB1 HO1 HR
    go_wp2_with fail
    go_loopw [6, 23] (fun tx ix wr => ∃ (i : Nat) (t : ByteArray), i ≤ (Sc.kf (n : Int)).length ∧ tx = .string t ∧ ix = .int .i64 i ∧ t.size ≤ 60 ∧ Hid (t.data.toList = prT ⟨n, a, b, f, p, r, vn⟩ i) ∧ Hid (PI w ⟨n, a, b, f, p, r, vn⟩ n g B nm q (Sc.kf (n : Int)).length wr)) (fun _ ix _ => (Sc.kf (n : Int)).length - (intOf ix).toNat)
    case atStart => exact ⟨0, nm, Nat.zero_le _, rfl, rfl, by rw [← ba_len, HN.out]; have := Sc.kw_len (n : Int); omega, by rw [Hid, HN.out, Sc.prT_zero], HP⟩
    case round =>
      obtain ⟨i, t, hi, rfl, rfl, ht60, HTx, HC⟩ := hrel
      clear HP c0 c1
      by_cases hlt : i < (Sc.kf (n : Int)).length
      · obtain ⟨j, hj⟩ : ∃ j, (Sc.kf (n : Int))[i]? = some j := ⟨_, List.getElem?_eq_getElem hlt⟩
        have h10 := ten_of (by omega) hlt
        have hcell := HC.out.cell h10 hj
        obtain ⟨rfl, _⟩ := HC.out.row h10
        have el : decide (i < (Sc.kf (n : Int)).length) = true := by simpa using hlt
        have hin := Sc.kf_in n (by omega) j (List.mem_of_getElem? hj)
        have hr6 := (Sc.chk_parts H0.out).2.2 j (List.mem_of_getElem? hj)
        have HNx : Hid (prT ⟨n, a, b, f, p, r, vn⟩ (i + 1) = prT ⟨n, a, b, f, p, r, vn⟩ i ++ 32 :: fieldS ⟨n, a, b, f, p, r, vn⟩ j) := Sc.prT_next hj
        have HLn := Lib.hid (Sc.prT_len HW.out H0.out (i + 1))
        have hfl := Sc.fieldS_short HW.out hr6
        clear hj
        by_cases h6 : j = 6
        · subst h6
          obtain ⟨u, hu⟩ : ∃ u : ByteArray, u.data.toList = hexL vn := ⟨⟨(hexL vn).toArray⟩, rfl⟩
          have hfs : fieldS ⟨n, a, b, f, p, r, vn⟩ 6 = hexL vn := by simp [fieldS]
          rw [hfs] at hfl
          have hus : u.size ≤ 16 := by rw [← ba_len, hu]; exact hfl
          have HU := Lib.hid hu
          have HT2 : Hid ((t ++ (⟨#[32]⟩ ++ u)).data.toList = prT ⟨n, a, b, f, p, r, vn⟩ (i + 1)) := by
            rw [Hid, HNx.out, hfs, ← HTx.out, ← hu]; simp
          have cv : wr.cell? ⟨w.heap.size, 6, none⟩ = some (.int .u64 (vn : Int)) := HC.out.box.at rfl
          clear hu hfs hfl hr6
          go_wp2_with (go_at_call 30; refine (hex_w vn hv64 u HU.out _ (HD.out.below HC.out.ow)).mono ?_; rintro e w3 ⟨rfl, hb3⟩)
          go_roundw
          case rel => exact ⟨i + 1, _, by omega, rfl, by go_num, by rw [← ba_len, HT2.out]; exact HLn.out, HT2, HC.out.then hb3⟩
          case measure => simp [intOf]; omega
        · obtain ⟨m, hm⟩ : ∃ m, num ⟨n, a, b, f, p, r, vn⟩ j = m := ⟨_, rfl⟩
          have hr := hr6.resolve_left h6
          have h5 : j ≤ 5 := by omega
          have hfs : fieldS ⟨n, a, b, f, p, r, vn⟩ j = Lib.itoa m := by unfold fieldS; rw [if_neg h6, hm]
          have hcn := ocells_num ⟨n, a, b, f, p, r, vn⟩ j hin.1 h5
          rw [hm] at hr hcn
          rw [hfs] at hfl
          obtain ⟨u, hu⟩ : ∃ u : ByteArray, u = ⟨(Lib.itoa m).toArray⟩ := ⟨_, rfl⟩
          have hus : u.size ≤ 16 := by rw [← ba_len, hu]; exact hfl
          have HT2 : Hid ((t ++ (⟨#[32]⟩ ++ u)).data.toList = prT ⟨n, a, b, f, p, r, vn⟩ (i + 1)) := by
            rw [Hid, HNx.out, hfs, ← HTx.out, hu]; simp
          have HEn : Hid (Ends m m) := by simp only [inR, decide_eq_true_eq] at hr; exact ⟨by omega, by omega⟩
          have HX := Lib.hid (And.intro hcn hin)
          have h6' : ¬ (j : Int) = 6 := by omega
          have HU := Lib.hid hu
          clear hfs hfl hr6 hr hm hcn hu hin
          go_wp2_with (first
            | (go_at_call 38; refine (number_any _ j HX.out.2.1 h5 _).mono ?_; rintro e w3 ⟨rfl, hb3⟩; have r3 : w3.cell? ⟨w.heap.size, j, none⟩ = some (.int .i64 m) := (HC.out.box.then hb3).at HX.out.1)
            | (go_at_call 29; refine (itoa_any m _ (HG.out.below (Ow.then HC.out.ow hb3)) HEn.out).mono ?_; rw [← HU.out]; rintro e w4 ⟨rfl, hb4⟩))
          go_roundw
          case rel => exact ⟨i + 1, _, by omega, rfl, by go_num, by rw [← ba_len, HT2.out]; exact HLn.out, HT2, (HC.out.then hb3).then hb4⟩
          case measure => simp [intOf]; omega
      · have el : decide (i < (Sc.kf (n : Int)).length) = false := by simpa using hlt
        have HF : Hid (t = ⟨T.toArray⟩) := by
          have : i = (Sc.kf (n : Int)).length := by omega
          refine str_of ?_
          rw [HTx.out, this, ← HLT.out, HTT.out]
        clear hlt
        go_wp2_with fail
        go_ret2
        rw [HF.out]
        exact ⟨rfl, HC.out.ow⟩
/-- What Print returns. -/
theorem print_any (c : OC) (u : ByteArray) (m : Int) (hu : u.data.toList = printS c) (hm : chkE c = m) (hw : WfC c) (w : World) (hg : Gl w) (hd : Db w) :
    Calls Tryz.prog 24 #[.agg (ocells c)] w fun e w' => e = .returned (.tuple #[.string u, .int .i64 m]) ∧ Ow w w' := by
  rw [str_of hu]
  subst hm
  unfold printS
  by_cases h : chkE c = 0
  · rw [if_pos h, h]; exact print_ok c hw h w hg hd
  · rw [if_neg h]; exact print_bad c h w
end Go.Proofs.YtaojogaakhidhaaGreatDoor

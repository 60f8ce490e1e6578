/- The contract of a Builder's WriteString at this translation: the shelf's, at a renaming of the three bodies alone. A Builder of the call's own, at a translation without strings.Join. Package ops: Text. The law OpsBack, walked. -/
import Derived.Test.YtaojogaakhidhaaGreatDoorShelf
import Derived.Test.YtaojogaakhidhaaGreatDoorWByte
import Derived.Test.YtaojogaakhidhaaGreatDoorQ2
import Derived.Test.YtaojogaakhidhaaGreatDoorQ8
import Derived.Test.YtaojogaakhidhaaGreatDoorQ5
import Derived.OwnWalk
import Derived.Test.YtaojogaakhidhaaGreatDoorOpShn
import Derived.Deep.DeepCutAuto
namespace Go.Proofs
open Go.Shelf Go.RowKit
def Tryz.lays166c_ren : Go.Shelf.Ren := ⟨fun | 166 => 25 | 240 => 46 | 276 => 69 | n => n, fun | 0 => 0 | 3 => 3 | 4 => 4 | 9 => 9 | 20 => 20 | 37 => 63 | 70 => 62 | 72 => 65 | 75 => 68 | 164 => 112 | 76 => 69 | 5 => 5 | 80 => 71 | n => n, fun | n => n⟩
set_option maxRecDepth 100000 in
theorem Tryz.lays166c : Go.Proofs.Lays.n166 Tryz.prog Tryz.lays166c_ren := {
  mixed := by kernel_rfl
  f166 := Tryz.func25.trans (congrArg some (by kernel_rfl))
  f240 := Tryz.func46.trans (congrArg some (by kernel_rfl))
  f276 := Tryz.func69.trans (congrArg some (by kernel_rfl))
  t0 := Tryz.underlying0
  a0 := Tryz.isAgg0
  z0 := Tryz.sizeOf0
  v0 := Tryz.zeroValue0
  t3 := Tryz.underlying3
  a3 := Tryz.isAgg3
  z3 := Tryz.sizeOf3
  v3 := Tryz.zeroValue3
  t4 := Tryz.underlying4
  a4 := Tryz.isAgg4
  z4 := Tryz.sizeOf4
  v4 := Tryz.zeroValue4
  t9 := Tryz.underlying9
  a9 := Tryz.isAgg9
  z9 := Tryz.sizeOf9
  v9 := Tryz.zeroValue9
  t20 := Tryz.underlying20
  a20 := Tryz.isAgg20
  z20 := Tryz.sizeOf20
  v20 := Tryz.zeroValue20
  t37 := Tryz.underlying63
  a37 := Tryz.isAgg63
  z37 := Tryz.sizeOf63
  v37 := Tryz.zeroValue63
  t70 := Tryz.underlying62
  a70 := Tryz.isAgg62
  z70 := Tryz.sizeOf62
  v70 := Tryz.zeroValue62
  t72 := Tryz.underlying65
  a72 := Tryz.isAgg65
  z72 := Tryz.sizeOf65
  v72 := Tryz.zeroValue65
  t75 := Tryz.underlying68
  a75 := Tryz.isAgg68
  z75 := Tryz.sizeOf68
  v75 := Tryz.zeroValue68
  t164 := Tryz.underlying112
  a164 := Tryz.isAgg112
  z164 := Tryz.sizeOf112
  v164 := Tryz.zeroValue112 }
theorem Tryz.Builder_Extra_166c : Builder.Extra Tryz.prog Tryz.lays166c_ren := {
  sizeBuilder := by kernel_rfl
  liesBuilder := by kernel_rfl
  t5 := Tryz.underlying5
  a5 := Tryz.isAgg5
  z5 := Tryz.sizeOf5
  v5 := Tryz.zeroValue5
  infoByte := by kernel_rfl
  cellsByte := by kernel_rfl
  sizeByte := by kernel_rfl
  neB5 := by decide }
theorem Tryz.Builder_WriteString (B b : Nat) (bs : List Value) (s : ByteArray) (w : World) (h : Lib.IsBuilder 65 5 B b bs w) (hlen : bs.length + s.size ≤ 140737488355328) (hBw : B ≤ w.heap.size) :
    Calls Tryz.prog 25 #[.pointer (some ⟨b, 0, none⟩), .string s] w fun e w' => e = .returned (.tuple #[.int .i64 s.size, .nilIface]) ∧ (Lib.BuilderAt 65 5 B b (.pointer (some ⟨b, 0, none⟩)) (bs ++ Lib.strCells s) w' ∧ Below B w w') := Any.Builder_WriteString Tryz.lays166c Tryz.Builder_Extra_166c B b bs s w h hlen hBw
end Go.Proofs
namespace Go.Proofs.YtaojogaakhidhaaGreatDoor
open Go.RowKit

/-- A Builder of the call's own, in block b, holding l. -/
def Bd (b : Nat) (l : List UInt8) (w : World) : Prop := Lib.IsBuilder 65 5 b b (Lib.byteCells l) w
theorem Bd.new (w : World) : Bd w.heap.size [] (w.alloc (.cells #[.pointer none, .slice none 0 0] 65)) := Lib.fresh_isBuilder _ _ w
theorem Bd.then {b : Nat} {l : List UInt8} {w w' : World} (h : Bd b l w) (hb : Below w.heap.size w w') : Bd b l w' := by
  have go : ∀ p, Lib.BuilderAt 65 5 b b p (Lib.byteCells l) w → Lib.BuilderAt 65 5 b b p (Lib.byteCells l) w' := fun p hp => by
    have hlt := hp.lt
    obtain ⟨h1, v, h2, h3, h4⟩ := hp
    exact ⟨h1, v, (hb.block b hlt).trans h2, own_then h3 hb, h4⟩
  rcases h with h | h
  · exact .inl (go _ h)
  · exact .inr (go _ h)
theorem Bd.str (b : Nat) (l : List UInt8) (s : ByteArray) (m : List UInt8) (hm : s.data.toList = m) (w : World) (h : Bd b l w) (hl : l.length ≤ 100000000000000) (hs : m.length ≤ 10000000000000) (hw : b ≤ w.heap.size) : Calls Tryz.prog 25 #[.pointer (some ⟨b, 0, none⟩), .string s] w fun e w' => (∃ v, e = .returned v) ∧ Bd b (l ++ m) w' ∧ Below b w w' := by
  subst hm
  rw [ba_len] at hs
  refine (Tryz.Builder_WriteString b b _ _ w h (by simp [Lib.byteCells]; omega) hw).mono fun e w' ⟨h1, h2, h3⟩ => ⟨⟨_, h1⟩, .inr ?_, h3⟩
  have : Lib.byteCells (l ++ s.data.toList) = Lib.byteCells l ++ Lib.strCells s := by simp [Lib.byteCells, Lib.strCells]
  rw [this]; exact h2
end Go.Proofs.YtaojogaakhidhaaGreatDoor
namespace Go.Proofs.YtaojogaakhidhaaGreatDoor
open Go.RowKit
open Sc (OC chkE WfC printS lineT txF textV)

theorem txF_at {l : List OC} {k : Nat} {c : OC} (hx : l[k]? = some c) : l.drop k = c :: l.drop (k + 1) := by
  obtain ⟨h, e⟩ := List.getElem?_eq_some_iff.1 hx
  rw [List.drop_eq_getElem_cons h, e]
theorem txF_err {l : List OC} {k : Nat} {c : OC} {acc : List UInt8} {p : Int} (hx : l[k]? = some c) (hp : chkE c = p) (h0 : p ≠ 0) : txF (l.drop k) k acc = ([], (k : Int), p) := by
  rw [txF_at hx, txF, if_pos (by rw [hp]; exact h0), hp]
theorem txF_step {l : List OC} {k : Nat} {c : OC} {acc u : List UInt8} (hx : l[k]? = some c) (hp : chkE c = 0) (hu : u = printS c) : txF (l.drop k) k acc = txF (l.drop (k + 1)) (k + 1) (acc ++ (u ++ [10])) := by
  have e : printS c = lineT c := by unfold printS; rw [if_pos hp]
  rw [txF_at hx, txF, if_neg (fun e => e hp), hu, e, List.append_assoc]
theorem txF_end {l : List OC} {k : Nat} {acc : List UInt8} (h : l.length ≤ k) : txF (l.drop k) k acc = (acc, 0, 0) := by
  rw [List.drop_eq_nil_iff.2 h, txF]
theorem print_len {c : OC} {u : List UInt8} (hw : WfC c) (hu : u = printS c) : u.length ≤ 58 := by
  rw [hu]
  unfold printS
  split
  · rename_i h; exact Sc.line_len hw h
  · simp
theorem OcsA.form {w : World} {v : Value} {l : List OC} (h : OcsA w v l) : ∃ a cap, v = .slice a l.length cap := by
  rcases h with ⟨rfl, a, cap, rfl⟩ | ⟨_, g, off, cap, rfl, _⟩
  · exact ⟨_, _, rfl⟩
  · exact ⟨_, _, rfl⟩
def TxPost (R : List UInt8 × Int × Int) (w : World) (e : Ending) (w' : World) : Prop := ∃ t : ByteArray, t.data.toList = R.1 ∧ e = .returned (.tuple #[.string t, .int .i64 R.2.1, .int .i64 R.2.2]) ∧ Ow w w'
set_option maxRecDepth 100000 in
set_option maxHeartbeats 8000000 in
theorem text_any (v : Value) (l : List OC) (w : World) (hv : OcsA w v l) (hl : l.length ≤ 100000) (hw : ∀ c ∈ l, WfC c) (hg : Gl w) (hd : Db w) :
    Calls Tryz.prog 11 #[v] w (TxPost (textV l) w) := by
  obtain ⟨R, hR⟩ : ∃ R, textV l = R := ⟨_, rfl⟩
  rw [hR]
  have HW := Lib.hid hw
  have HG := Lib.hid hg
  have HD := Lib.hid hd
  clear hg hd
  clear hw
  by_cases h200 : 200 < l.length
  · have HF : Hid (([], -1, 3) = R) := by rw [Hid, ← hR]; unfold textV; rw [if_pos h200]
    have e1 : (200 : Int) < (l.length : Int) := by omega
    obtain ⟨a, cap, rfl⟩ := hv.form
    clear h200 hR hv
    go_enter Tryz.func11, Tryz.ntmps11
    go_wp2
    go_ret3
    rw [← HF.out]
    exact ⟨⟨#[]⟩, rfl, rfl, Ow.refl _⟩
  · have e1 : ¬ (200 : Int) < (l.length : Int) := by omega
    have HV : Hid (txF (l.drop 0) 0 [] = R) := by rw [Hid, List.drop_zero, ← hR]; unfold textV; rw [if_neg h200]
    clear h200 hR
    have HB0 : Hid (Bd w.heap.size [] (w.alloc (.cells #[.pointer none, .slice none 0 0] 65))) := Bd.new w
    have HO0 : Hid (Ow w (w.alloc (.cells #[.pointer none, .slice none 0 0] 65))) := (Ow.refl w).alloc _
    rcases hv with ⟨h0, a, cap, rfl⟩ | ⟨hne, g, off, cap, rfl, hgl, hc⟩
    · have HF : Hid (([], 0, 0) = R) := by rw [Hid, ← HV.out, h0]; rfl
      subst h0
      go_enter Tryz.func11, Tryz.ntmps11
      go_wp2
      generalize w.alloc (.cells #[.pointer none, .slice none 0 0] 65) = W at HB0 HO0 ⊢
      go_loopw [15] (fun ix wr => ix = .int .i64 0 ∧ W = wr) (fun _ _ => 0)
      case atStart => exact ⟨rfl, rfl⟩
      case round =>
        obtain ⟨rfl, rfl⟩ := hrel
        go_wp2_with (go_at_call 26; refine (Tryz.Builder_String_any _ _ [] _ HB0.out HO0.out.size).mono ?_; rintro e w2 ⟨rfl, hb2⟩)
        go_ret3
        rw [← HF.out]
        exact ⟨⟨#[]⟩, rfl, rfl, HO0.out.trans hb2⟩
    · have HC := Lib.hid hc
      clear hc hne
      go_enter Tryz.func11, Tryz.ntmps11
      go_wp2
      generalize w.alloc (.cells #[.pointer none, .slice none 0 0] 65) = W at HB0 HO0 ⊢
      go_loopw [15] (fun ix wr => ∃ (k : Nat) (bs : List UInt8), k ≤ l.length ∧ ix = .int .i64 k ∧ bs.length ≤ 59 * k ∧ Hid (Bd w.heap.size bs wr) ∧ Hid (Ow w wr) ∧ Hid (txF (l.drop k) k bs = R)) (fun ix _ => l.length - (intOf ix).toNat)
      case atStart => exact ⟨0, [], by omega, rfl, by simp, HB0, HO0, HV⟩
      case round =>
        obtain ⟨k, bs, hk, rfl, hbl, HB, HO, HR⟩ := hrel
        clear HB0 HO0 HV
        by_cases hlt : k < l.length
        · obtain ⟨c, hx⟩ : ∃ c, l[k]? = some c := ⟨l[k], List.getElem?_eq_getElem hlt⟩
          obtain ⟨c0, c1, c2, c3, c4, c5, c6⟩ := (HC.out k c hx).then HO.out
          have hgr : g < wr.heap.size := Nat.lt_of_lt_of_le hgl HO.out.size
          have HWc : Hid (WfC c) := HW.out c (List.mem_of_getElem? hx)
          obtain ⟨u, hu⟩ : ∃ u : ByteArray, u.data.toList = printS c := ⟨⟨(printS c).toArray⟩, rfl⟩
          obtain ⟨m, hm⟩ : ∃ m, chkE c = m := ⟨_, rfl⟩
          have HP := Lib.hid (fun W hG hD => print_any c u m hu hm HWc.out W hG hD)
          have hul : u.size ≤ 58 := by rw [← ba_len]; exact print_len HWc.out hu
          have HX := Lib.hid hx
          have HU := Lib.hid hu
          have HM := Lib.hid hm
          have el : decide (k < l.length) = true := by simpa using hlt
          have hlt2 : (k : Int) < (l.length : Int) := by omega
          clear hx hu hm
          obtain ⟨ck, ca, cb, cf, cp, cr, cv⟩ := c
          simp only at c0 c1 c2 c3 c4 c5 c6
          unfold ocells at HP
          by_cases hm0 : m = 0
          · subst hm0
            have HN := Lib.hid ((txF_step HX.out HM.out HU.out).symm.trans HR.out)
            have z1 : ¬ 9223372036854775807 < u.size + 1 := by omega
            go_wp2_with (first
              | (go_at_call 24; refine (HP.out _ (HG.out.below (by first | exact HO.out | exact HO.out.alloc _)) (HD.out.below (by first | exact HO.out | exact HO.out.alloc _))).mono ?_; rintro e w2 ⟨rfl, hb2⟩; have HO2 : Hid (Ow w w2) := (by first | exact HO.out.then hb2 | exact (HO.out.alloc _).then hb2); have HB2 : Hid (Bd w.heap.size bs w2) := (by first | exact HB.out.then hb2 | exact (HB.out.then ((Ow.refl _).alloc _)).then hb2); clear hb2)
              | (go_at_call 25; refine (Bd.str w.heap.size bs (u ++ ⟨#[10]⟩) (u.data.toList ++ [10]) (by simp) _ HB2.out (by omega) (by rw [List.length_append, ba_len, List.length_singleton]; omega) HO2.out.size).mono ?_; rintro e w3 ⟨⟨x3, rfl⟩, hbd3, hb3⟩; have HB3 := Lib.hid hbd3; have HO3 : Hid (Ow w w3) := HO2.out.trans hb3; clear hbd3 hb3))
            go_roundw
            case rel => exact ⟨k + 1, bs ++ (u.data.toList ++ [10]), by omega, by go_num, by rw [List.length_append, List.length_append, ba_len, List.length_singleton]; omega, HB3, HO3, HN⟩
            case measure => simp [intOf]; omega
          · have hb0 : (m == 0) = false := beq_eq_false_iff_ne.2 hm0
            have HF := Lib.hid ((txF_err HX.out HM.out hm0).symm.trans HR.out)
            clear hm0
            go_wp2_with (go_at_call 24; refine (HP.out _ (HG.out.below (by first | exact HO.out | exact HO.out.alloc _)) (HD.out.below (by first | exact HO.out | exact HO.out.alloc _))).mono ?_; rintro e w2 ⟨rfl, hb2⟩; have HO2 : Hid (Ow w w2) := (by first | exact HO.out.then hb2 | exact (HO.out.alloc _).then hb2); have HB2 : Hid (Bd w.heap.size bs w2) := (by first | exact HB.out.then hb2 | exact (HB.out.then ((Ow.refl _).alloc _)).then hb2); clear hb2)
            go_ret3
            rw [← HF.out]
            exact ⟨⟨#[]⟩, rfl, rfl, HO2.out⟩
        · have el : decide (k < l.length) = false := by simpa using hlt
          have HF := Lib.hid ((txF_end (by omega)).symm.trans HR.out)
          clear hlt
          go_wp2_with (go_at_call 26; refine (Tryz.Builder_String_any _ _ bs _ HB.out HO.out.size).mono ?_; rintro e w2 ⟨rfl, hb2⟩)
          go_ret3
          rw [← HF.out]
          exact ⟨⟨bs.toArray⟩, rfl, rfl, HO.out.trans hb2⟩
end Go.Proofs.YtaojogaakhidhaaGreatDoor
namespace Go.Proofs.YtaojogaakhidhaaGreatDoor
open Go.RowKit
open Sc (OC OA chkE chkA WfA WfC parE parC paE paA parA ansS ansT printS lineT)

/-- The boxes of an operation and of an answer, at every world of the call. -/
structure BK (w : World) (c : OC) (a : OA) (W : World) : Prop where
  ow : Ow w W
  box : Bx w.heap.size (ocells c) 25 W
  abox : Bx (w.heap.size + 1) (acells a) 41 W
theorem BK.start (w : World) (c : OC) (a : OA) : BK w c a ((w.alloc (.cells (ocells c) 25)).alloc (.cells (acells a) 41)) :=
  ⟨((Ow.refl _).alloc _).alloc _, (Bx.new w _ _).alloc _, by simpa using (Bx.new (w.alloc (.cells (ocells c) 25)) (acells a) 41)⟩
theorem BK.then {w : World} {c : OC} {a : OA} {W W' : World} (h : BK w c a W) (hb : Ow W W') : BK w c a W' := ⟨Ow.then h.ow hb, h.box.then hb, h.abox.then hb⟩
theorem BK.alloc {w : World} {c : OC} {a : OA} {W : World} (h : BK w c a W) (o : Obj) : BK w c a (W.alloc o) := h.then ((Ow.refl _).alloc _)
theorem prs_ok {c : OC} (h : chkE c = 0) : printS c = lineT c := by unfold printS; rw [if_pos h]
theorem ans_ok' {c : OC} {a : OA} (h : chkA c a = 0) : ansS c a = ansT c a := by unfold ansS; rw [if_pos h]
theorem prs_len {c : OC} (hw : WfC c) : (printS c).length ≤ 60 := by
  unfold printS; split
  · rename_i h; rw [← Sc.prT_all (Nat.le_refl _)]; exact Sc.prT_len hw h _
  · simp
theorem ans_len {c : OC} {a : OA} (ha : WfA a) : (ansS c a).length ≤ 60 := by
  unfold ansS; split
  · rename_i h
    obtain ⟨_, h2, h3, h4⟩ := Sc.chkA_parts h
    obtain ⟨_, _, b3⟩ := Sc.badA_parts h4
    unfold Sc.ansT
    have hi : ∀ n : Int, -1000000000 ≤ n → n ≤ 1000000000 → (Lib.itoa n).length ≤ 11 := fun n h1 h2 => Sc.itoa_short (by simp only [Sc.inR, decide_eq_true_eq]; exact ⟨h1, h2⟩)
    split
    · have := hi a.e (by omega) (by omega)
      simp [Sc.errT]; omega
    · split
      · split <;> simp [Sc.yesT, Sc.noT]
      · split
        · have := Sc.hexL_len 15 a.v.toNat (by have := ha.2; have h16 : (16 : Nat) ^ (15 + 1) = 18446744073709551616 := by decide
                                               omega)
          omega
        · split
          · rename_i h10
            have := b3 h10
            have h5 := ha.1
            have e1 := hi (a.v / 256) (by omega) (by omega)
            have e2 := hi (a.v % 256) (by omega) (by omega)
            simp; omega
          · simp [Sc.okT]
  · simp
end Go.Proofs.YtaojogaakhidhaaGreatDoor

/- The reference of chapter 28: Parse. -/
import Derived.Test.YtaojogaakhidhaaGreatDoorOpRFd
import Derived.Test.YtaojogaakhidhaaGreatDoorOpParse
import Derived.Test.YtaojogaakhidhaaGreatDoorWRSpl
import Derived.Test.YtaojogaakhidhaaGreatDoorOpRChk
import Derived.Deep.DeepCutAuto
namespace Go.Proofs.YtaojogaakhidhaaGreatDoor
open Go.RowKit
open Sc (OC fits kindOf parE parC readE readC kf kw zeroC bareC0 rdE rdC fldE fldN setN)
open Wd (splitS splitE)
theorem rsplit_far (s : ByteArray) (m : Int) (hm : splitE s.data.toList = m) (w : World) (hs : s.size ≤ 9000) :
    Calls Tryz.prog 19 #[.string s] w fun e w' => ∃ fa fc, e = .returned (.tuple #[.slice fa (splitS s.data.toList).length fc, .int .i64 m]) ∧ Ow w w' ∧ (splitS s.data.toList ≠ [] → ∃ G off, fa = some ⟨G, off, none⟩ ∧ w.heap.size ≤ G ∧ FC G off (splitS s.data.toList) w') := by
  subst hm
  refine (rsplit_any s w hs).mono fun e w' ⟨v, h1, h2, h3⟩ => ?_
  rcases Joins.ownsRow_forms h2 with ⟨rfl, h0⟩ | ⟨G, cap, rfl⟩
  · exact ⟨none, 0, by rw [h1, h0], h3, fun h => absurd (List.length_eq_zero_iff.1 h0) h⟩
  · refine ⟨_, cap, h1, h3, fun _ => ⟨G, 0, rfl, (h2.lt G rfl).1, (h2.lt G rfl).2, fun i x hx => ?_⟩⟩
    have hi := (List.getElem?_eq_some_iff.1 hx).1
    obtain ⟨a1, a2⟩ := cellsF_at _ i x hx
    rw [Nat.zero_add, h2.cellAt (i * 2) (by omega), h2.cellAt (i * 2 + 1) (by omega)]
    exact ⟨a1, a2⟩
theorem rp_ret {P : Ending → World → Prop} {W : World} {u : Array Value} {R : Nat} {c : OC} {m : Int} (hR : Bx R (ocells c) 25 W)
    (h2 : u[2]? = some (.pointer (some ⟨R, 0, none⟩))) (h3 : u[3]? = some (.int .i64 m)) (hq : P (.returned (.tuple #[.agg (ocells c), .int .i64 m])) W) :
    bodyPost Tryz.prog Tryz.f8 P Exit.ret { tmps := u, defers := [] } W := by
  refine bodyPost_ret (v := .tuple #[.agg (ocells c), .int .i64 m]) ?_ rfl hq
  have hp : u.getD 2 undef = .pointer (some ⟨R, 0, none⟩) := by simp [h2]
  have hm : u.getD 3 undef = .int .i64 m := by simp [h3]
  rw [results_cell_tmp Tryz.results8, hp, hm]
  have hl := run_loadVar_row (P := Tryz.prog) W R 25 25 (ocells c) (0, 0) _ hR Tryz.underlying25 rfl (by kernel_rfl)
  simp only [asAddr, Sem.run_pure, Result.andThen_ok, hl]
/-- Between the rounds over the kinds. -/
structure RR (w : World) (fs : List (List UInt8 × Bool)) (fa : Option Addr) (W : World) : Prop where
  ow : Ow w W
  res : Bx w.heap.size (ocells zeroC) 25 W
  fs : fs ≠ [] → ∃ G off, fa = some ⟨G, off, none⟩ ∧ w.heap.size < G ∧ FC G off fs W
theorem RR.then {w : World} {fs : List (List UInt8 × Bool)} {fa : Option Addr} {W W' : World} (h : RR w fs fa W) (hb : Ow W W') : RR w fs fa W' :=
  ⟨Ow.then h.ow hb, h.res.then hb, fun hne => by obtain ⟨G, off, e1, e2, e3⟩ := h.fs hne; exact ⟨G, off, e1, e2, e3.then hb⟩⟩
/-- Between the rounds over the letters. -/
structure RJ (w : World) (fs : List (List UInt8 × Bool)) (G off B : Nat) (C : OC) (W : World) : Prop where
  ow : Ow w W
  res : Bx w.heap.size (ocells zeroC) 25 W
  c : Bx B (ocells C) 25 W
  fs : FC G off fs W
  far : w.heap.size < B
  neq : G ≠ B
theorem RJ.then {w : World} {fs : List (List UInt8 × Bool)} {G off B : Nat} {C : OC} {W W' : World} (h : RJ w fs G off B C W) (hb : Ow W W') : RJ w fs G off B C W' :=
  ⟨Ow.then h.ow hb, h.res.then hb, h.c.then hb, h.fs.then hb, h.far, h.neq⟩
theorem FC.row {G off : Nat} {xs : List (List UInt8 × Bool)} {W : World} (h : FC G off xs W) {b : Nat} (hb : G ≠ b) (x : Array Value) : FC G off xs (W.setRow b x) := by
  have hh := setRow_other W b G x hb
  refine ⟨by simpa using h.lt, fun j y hy => ?_⟩
  have := h.fld j y hy
  unfold World.cell? at this ⊢
  simp only at this ⊢
  rw [hh]; exact this
theorem RJ.set {w : World} {fs : List (List UInt8 × Bool)} {G off B : Nat} {C : OC} {W : World} (h : RJ w fs G off B C W) {b : Nat} (hb : B < b) (hg : G < b) (i : Nat) (v : Value) : RJ w fs G off B C (W.setCell ⟨b, i, none⟩ v) :=
  ⟨h.ow.set (by have := h.far; omega) _ _, h.res.other (by have := h.far; omega) _ _, h.c.other (by omega) _ _, h.fs.set (by omega) _ _, h.far, h.neq⟩
theorem RJ.row {w : World} {fs : List (List UInt8 × Bool)} {G off B : Nat} {C : OC} {W : World} (h : RJ w fs G off B C W) (d : OC) : RJ w fs G off B d (W.setRow B (ocells d)) :=
  ⟨h.ow.row (by have := h.far; omega) _, h.res.row (by have := h.far; omega) _, setRow_heap _ _ _ _ _ _ h.c, h.fs.row h.neq _, h.far, h.neq⟩
set_option maxRecDepth 100000 in
set_option maxHeartbeats 16000000 in
theorem rparse_any (s : ByteArray) (w : World) (hs : s.size ≤ 9000) :
    Calls Tryz.prog 8 #[.string s] w (PaPost s w) := by
  obtain ⟨fs, hfs⟩ : ∃ fs, splitS s.data.toList = fs := ⟨_, rfl⟩
  obtain ⟨m, hm⟩ : ∃ m, splitE s.data.toList = m := ⟨_, rfl⟩
  have HS := Lib.hid (rsplit_far s m hm)
  rw [hfs] at HS
  have HFs := Lib.hid hfs
  have HM := Lib.hid hm
  have HA : Hid (Ow w (w.alloc (.cells (ocells zeroC) 25))) := (Ow.refl _).alloc _
  have HX : Hid (Bx w.heap.size (ocells zeroC) 25 (w.alloc (.cells (ocells zeroC) 25))) := Bx.new _ _ _
  clear hfs hm
  by_cases hm0 : m = 0
  · subst hm0
    have HSh : Hid (∀ x ∈ fs, x.1.length ≤ 9000) := by rw [← HFs.out]; exact split_short _
    obtain ⟨N, hN⟩ : ∃ N, fs.length = N := ⟨_, rfl⟩
    rw [hN] at HS
    have HNl := Lib.hid hN
    clear hN
    go_enter Tryz.func8, Tryz.ntmps8
    go_wp2_with fail
    (go_at_call 19; refine (HS.out _ hs).mono ?_; rintro e w1 ⟨fa, fc, rfl, hb1, hf1⟩)
    have HP : Hid (RR w fs fa w1) :=
      ⟨HA.out.then hb1, HX.out.then hb1, fun hne => by obtain ⟨G, off, e1, e2, e3⟩ := hf1 hne; exact ⟨G, off, e1, by simp at e2; omega, e3⟩⟩
    clear hb1 hf1
    go_wp2_with fail
    go_loopw [6] (fun ix wr => ∃ k : Nat, 1 ≤ k ∧ k ≤ 12 ∧ ix = .int .i64 k ∧ Hid (∀ j : Nat, 1 ≤ j → j < k → fits j fs = false) ∧ Hid (RR w fs fa wr)) (fun ix _ => 12 - (intOf ix).toNat)
    case atStart => exact ⟨1, by omega, by omega, rfl, fun j h1 h2 => by omega, HP⟩
    case round =>
      obtain ⟨k, hk1, hk, rfl, HN, HR⟩ := hrel
      clear HP
      by_cases hlt : k < 12
      · have hkk : 1 ≤ (k : Int) ∧ (k : Int) ≤ 11 := by omega
        obtain ⟨W1, hW1⟩ : ∃ u : ByteArray, u = ⟨(wrd k).toArray⟩ := ⟨_, rfl⟩
        obtain ⟨L, hL⟩ : ∃ u : ByteArray, u = ⟨(ltrs k).toArray⟩ := ⟨_, rfl⟩
        have HRw := Lib.hid (fun W => rword_any k W)
        rw [← hW1, ← hL] at HRw
        have hLl : L.data.toList = (kf k).map ltr := by rw [hL]; show ltrs k = _; unfold ltrs; rw [if_pos hkk]
        have hLs : L.size = (kf k).length := by rw [← ba_len, hLl, List.length_map]
        have HW1 : Hid (W1.data.toList = kw k) := by rw [hW1]; show wrd k = _; unfold wrd; rw [if_pos hkk]
        have HLl := Lib.hid hLl
        have HLs := Lib.hid hLs
        have hL3 : L.size ≤ 3 := by rw [hLs]; exact Sc.kf_three _
        have HKn : Hid (fits k fs = false → ∀ j : Nat, 1 ≤ j → j < k + 1 → fits j fs = false) := fun h j h1 h2 => by
          rcases Nat.lt_or_ge j k with h3 | h3
          · exact HN.out j h1 h3
          · obtain rfl : j = k := by omega
            exact h
        clear hW1 hL hLl hLs
        by_cases hb : N = L.size + 1
        · subst hb
          have hne : fs ≠ [] := by intro e; have := HNl.out; rw [e] at this; simp at this
          obtain ⟨G, off, rfl, hGw, hF⟩ := HR.out.fs hne
          obtain ⟨x, hx⟩ : ∃ x, fs[0]? = some x := ⟨_, List.getElem?_eq_getElem (by have := HNl.out; omega)⟩
          obtain ⟨f0, f1⟩ := hF.fld 0 x hx
          simp only [Nat.zero_mul, Nat.add_zero] at f0 f1
          have hGl := hF.lt
          have HF := Lib.hid hF
          obtain ⟨xs, xq⟩ := x
          simp only at f0 f1
          obtain ⟨sx, hsx⟩ : ∃ sx : ByteArray, ⟨xs.toArray⟩ = sx := ⟨_, rfl⟩
          rw [hsx] at f0
          have HXx := Lib.hid (And.intro hx hsx)
          have HKh : Hid (fits k fs = ((xs, xq) == (kw k, false))) := by
            have h0 : fs.head? = some (xs, xq) := by rw [List.head?_eq_getElem?]; exact hx
            rw [Hid]; unfold Sc.fits; rw [HNl.out, h0, ← HLs.out]; simp
          clear hx hsx hF hne
          by_cases hw : sx = W1
          · subst hw
            cases xq with
            | true =>
              have HK := Lib.hid (HKn.out (by rw [HKh.out]; simp))
              go_wp2_with (go_at_call 20; refine (HRw.out _).mono ?_; rintro e W ⟨rfl, rfl⟩)
              go_roundw
              case rel => exact ⟨k + 1, by omega, by omega, by go_num, HK.out, HR⟩
              case measure => simp [intOf]; omega
            | false =>
              have hxk : xs = kw k := by have := HW1.out; rw [← HXx.out.2] at this; simpa using this
              have HKo : Hid (kindOf fs = some k) := Sc.kind_some (by omega) (by omega) (by rw [HKh.out, hxk]; simp)
              have HPs := Lib.hid (par_some (l := s.data.toList) HM.out (by rw [HFs.out]; exact HKo.out))
              rw [HFs.out] at HPs
              go_wp2_with (go_at_call 20; refine (HRw.out _).mono ?_; rintro e W ⟨rfl, rfl⟩)
              have HJ0 : Hid (RJ w fs G off wr.heap.size (bareC0 k) (wr.alloc (.cells (ocells (bareC0 k)) 25))) := ⟨HR.out.ow.alloc _, HR.out.res.alloc _, Bx.new _ _ _, HF.out.then ((Ow.refl _).alloc _), HR.out.res.lt, by omega⟩
              obtain ⟨B, hB⟩ : ∃ B, wr.heap.size = B := ⟨_, rfl⟩
              rw [hB] at HJ0 ⊢
              have htl : (kf k).length = fs.tail.length := by rw [List.length_tail, HNl.out, ← HLs.out]; rfl
              have HTl := Lib.hid htl
              clear f0 f1 hxk htl hB hGl
              go_loopw [10, 11] (fun ev ix wv => ∃ (i : Nat) (E1 : Int), i ≤ L.size ∧ ev = .int .i64 E1 ∧ ix = .int .i64 i ∧ Hid (E1 = rdE (kf k) fs.tail i) ∧ Hid (E1 = 0 ∨ E1 = 7) ∧ Hid (RJ w fs G off B (rdC (bareC0 k) (kf k) fs.tail i) wv)) (fun _ ix _ => L.size - (intOf ix).toNat)
              case atStart => exact ⟨0, 0, Nat.zero_le _, rfl, rfl, (Sc.rdE_zero _ _).symm, .inl rfl, by rw [Hid, Sc.rdC_zero]; exact HJ0⟩
              case round =>
                clear HJ0
                obtain ⟨i, E1, hi, rfl, rfl, HE1, HE6, HJ⟩ := hrel
                by_cases hil : i < L.size
                · obtain ⟨j, hj⟩ : ∃ j, (kf k)[i]? = some j := ⟨_, List.getElem?_eq_getElem (by rw [← HLs.out]; exact hil)⟩
                  obtain ⟨x, hx⟩ : ∃ x, fs.tail[i]? = some x := ⟨_, List.getElem?_eq_getElem (by rw [← HTl.out, ← HLs.out]; exact hil)⟩
                  have hx1 : fs[i + 1]? = some x := by rw [← hx]; cases fs <;> simp
                  have el : decide (i < L.size) = true := by simpa using hil
                  have hin := Sc.kf_in k hlt j (List.mem_of_getElem? hj)
                  have hlj : L[i] = ltr j := by
                    have h1 : L.data.toList[i]? = some (ltr j) := by rw [HLl.out, List.getElem?_map, hj]; rfl
                    rw [ba_at L i hil] at h1
                    exact Option.some.inj h1
                  obtain ⟨n, hn⟩ : ∃ n : Nat, L[i].toNat = n := ⟨_, rfl⟩
                  have hnl : (ltr j).toNat = n := by rw [← hn, hlj]
                  obtain ⟨s1, q1⟩ := x
                  obtain ⟨f0, f1⟩ := HJ.out.fs.fld (i + 1) _ hx1
                  simp only at f0 f1
                  obtain ⟨C, hC⟩ : ∃ C, rdC (bareC0 k) (kf k) fs.tail i = C := ⟨_, rfl⟩
                  rw [hC] at HJ
                  have HEn := Lib.hid (Sc.rdE_next HTl.out hj hx)
                  have HCn := Lib.hid (Sc.rdC_next (c := bareC0 k) HTl.out hj hx)
                  rw [hC] at HCn
                  have HS6 := Lib.hid (fun h => Sc.rdE_six HTl.out hj hx h)
                  obtain ⟨m2, hm2⟩ : ∃ m2, fldE j (s1, q1) = m2 := ⟨_, rfl⟩
                  have hm3 := Sc.fldE_cases j (s1, q1)
                  obtain ⟨d, hd⟩ : ∃ d, (if q1 = true then C else setN C j (fldN j (s1, q1))) = d := ⟨_, rfl⟩
                  have HFd := Lib.hid (fun W => rfield_any C j n hin.1 hin.2 hnl s1 q1 W (HSh.out _ (List.mem_of_getElem? hx1)) (fun h => by subst h; rfl))
                  rw [hd, hm2] at HFd
                  have HDn : Hid (m2 ≠ 6 → d = rdC (bareC0 k) (kf k) fs.tail (i + 1)) := fun h => by
                    rw [HCn.out, ← hd]
                    cases q1 with
                    | true => exact absurd (hm2.symm.trans rfl) h
                    | false => rfl
                  rw [hm2] at HEn HS6 hm3
                  obtain ⟨ck, ca, cb, cf, cp, cr, cv⟩ := C
                  obtain ⟨dk, da, db, df, dp, dr, dv⟩ := d
                  unfold ocells RfP at HFd
                  unfold ocells at HFd
                  have hwi : IntKind.i64.wrap ((i : Int) + 1) = (i : Int) + 1 := IntWalk.i64_in _ (by omega)
                  have hti : ((i : Int) + 1).toNat = i + 1 := by omega
                  have h0i : (0 : Int) ≤ (i : Int) + 1 := by omega
                  have hli : (i : Int) + 1 < (L.size : Int) + 1 := by omega
                  have hli2 : (i : Int) < (L.size : Int) := by omega
                  have hli3 : i + 1 < L.size + 1 := by omega
                  have hBl := HJ.out.c.lt
                  have hGl := HJ.out.fs.lt
                  have HM2 := Lib.hid hm3
                  have r0 : wr.cell? ⟨B, 0, none⟩ = some (.int .i64 ck) := HJ.out.c.at rfl
                  have r1 : wr.cell? ⟨B, 1, none⟩ = some (.int .i64 ca) := HJ.out.c.at rfl
                  have r2 : wr.cell? ⟨B, 2, none⟩ = some (.int .i64 cb) := HJ.out.c.at rfl
                  have r3 : wr.cell? ⟨B, 3, none⟩ = some (.int .i64 cf) := HJ.out.c.at rfl
                  have r4 : wr.cell? ⟨B, 4, none⟩ = some (.int .i64 cp) := HJ.out.c.at rfl
                  have r5 : wr.cell? ⟨B, 5, none⟩ = some (.int .i64 cr) := HJ.out.c.at rfl
                  have r6 : wr.cell? ⟨B, 6, none⟩ = some (.int .u64 cv) := HJ.out.c.at rfl
                  clear hj hx hx1 hin hlj hnl hC hm2 hm3 hd
                  go_upto_region 14 with fail
                  go_cut [12, 13] (fun xx ee wx => ∃ B2 : Nat, xx = .pointer (some ⟨B2, 0, none⟩) ∧ ee = .int .i64 m2 ∧ Hid (Bx B2 (ocells ⟨dk, da, db, df, dp, dr, dv⟩) 25 wx ∧ RJ w fs G off B ⟨ck, ca, cb, cf, cp, cr, cv⟩ wx))
                  case first =>
                    clear HSh HN HKn HRw HW1 HLl HLs HKo HKh HPs HXx HTl HE1 HE6 HEn HCn HS6 HDn HM2 HR HF HFs HM HA HX HNl HS
                    rename_i q6 q7 p5 q8 p4 q9 q10 p3 q11 p2 q12 q13 p1 p0
                    clear p5 p4 p3 p2
                    refine wp_region_any (by kernel_rfl) ?_
                    try (change wpAny _ _ _ _ _ _ _ (World.drew _))
                    refine wpAny_take (i := 1) (v := ?_) rfl (by kernel_rfl) (by kernel_rfl) (by kernel_rfl) (fun _ _ _ h => h) (Or.inl ⟨by rfl, ?hy1⟩) ?rest1
                    case hy1 => (intro w; go_simp; try with_reducible rfl)
                    refine wpAny_take (i := 2) (v := ?_) rfl (by kernel_rfl) (by kernel_rfl) (by kernel_rfl) (fun _ _ _ h => h) (Or.inl ⟨by rfl, ?hy2⟩) ?rest2
                    case hy2 => (intro w; go_simp; try with_reducible rfl)
                    refine wpAny_take (i := 3) (v := ?_) rfl (by kernel_rfl) (by kernel_rfl) (by kernel_rfl) (fun _ _ _ h => h) (Or.inl ⟨by rfl, ?hy3⟩) ?rest3
                    case hy3 => (intro w; go_simp; try with_reducible rfl)
                    refine wpAny_take (i := 4) (v := ?_) rfl (by kernel_rfl) (by kernel_rfl) (by kernel_rfl) (fun _ _ _ h => h) (Or.inl ⟨by rfl, ?hy4⟩) ?rest4
                    case hy4 => (intro w; go_simp; try with_reducible rfl)
                    refine wpAny_take (i := 5) (v := ?_) rfl (by kernel_rfl) (by kernel_rfl) (by kernel_rfl) (fun _ _ _ h => h) (Or.inl ⟨by rfl, ?hy5⟩) ?rest5
                    case hy5 => (intro w; go_simp; try with_reducible rfl)
                    refine wpAny_take (i := 6) (v := ?_) rfl (by kernel_rfl) (by kernel_rfl) (by kernel_rfl) (fun _ _ _ h => h) (Or.inl ⟨by rfl, ?hy6⟩) ?rest6
                    case hy6 => (intro w; go_simp; try with_reducible rfl)
                    refine wpAny_take (i := 7) (v := ?_) rfl (by kernel_rfl) (by kernel_rfl) (by kernel_rfl) (fun _ _ _ h => h) (Or.inl ⟨by rfl, ?hy7⟩) ?rest7
                    case hy7 => (intro w; go_simp; try with_reducible rfl)
                    refine wpAny_ready (rs := [0, 8, 13]) (by kernel_rfl) (by simp) ?_
                    refine AllReady.cons rfl (fun K hK => ?_) ?_
                    · go_simp
                      refine hK _ _ ?_
                      clear hK K
                      refine wpAny_ready (rs := [8, 13]) (by kernel_rfl) (by simp) ?_
                      refine AllReady.cons rfl (fun K hK => ?_) ?_
                      · go_simp
                        refine hK _ _ ?_
                        clear hK K
                        refine wpAny_ready (rs := [9, 13]) (by kernel_rfl) (by simp) ?_
                        refine AllReady.cons rfl (fun K hK => ?_) ?_
                        · go_simp
                          go_wp2_with (go_at_call 21; refine (HFd.out _).mono ?_; rintro e w3 ⟨rfl, hb3⟩; have hb4 : Ow wr w3 := (by first | exact Ow.then (Ow.refl _).drew hb3 | exact Ow.then ((Ow.refl _).drewN _) hb3 | exact Ow.then ((Ow.refl _).alloc _).drew hb3 | exact Ow.then ((Ow.refl _).drew.alloc _) hb3 | exact Ow.then ((Ow.refl _).drew.alloc _).drew hb3); first | (have hS : Bx wr.heap.size (ocells zeroC) 25 w3 := (by first | exact ((Bx.new wr _ _).drewN _).then hb3 | exact Bx.then (Bx.new wr.drew _ _) hb3 | exact Bx.then ((Bx.new wr.drew _ _).drewN _) hb3); have s0 : w3.cell? ⟨wr.heap.size, 0, none⟩ = some (.int .i64 0) := hS.at rfl; have s1 : w3.cell? ⟨wr.heap.size, 1, none⟩ = some (.int .i64 0) := hS.at rfl; have s2 : w3.cell? ⟨wr.heap.size, 2, none⟩ = some (.int .i64 0) := hS.at rfl; have s3 : w3.cell? ⟨wr.heap.size, 3, none⟩ = some (.int .i64 0) := hS.at rfl; have s4 : w3.cell? ⟨wr.heap.size, 4, none⟩ = some (.int .i64 0) := hS.at rfl; have s5 : w3.cell? ⟨wr.heap.size, 5, none⟩ = some (.int .i64 0) := hS.at rfl; have s6 : w3.cell? ⟨wr.heap.size, 6, none⟩ = some (.int .u64 0) := hS.at rfl; have z0 := hS.z 0; have z1 := hS.z 1; have z2 := hS.z 2; have z3 := hS.z 3; have z4 := hS.z 4; have z5 := hS.z 5; have z6 := hS.z 6) | skip)
                          refine wpAny_take (i := 10) (v := ?_) rfl (by kernel_rfl) (by kernel_rfl) (by kernel_rfl) (fun _ _ _ h => h) (Or.inl ⟨by rfl, ?hy8⟩) ?rest8
                          case hy8 => (intro w; go_simp; try with_reducible rfl)
                          refine wpAny_take (i := 11) (v := ?_) rfl (by kernel_rfl) (by kernel_rfl) (by kernel_rfl) (fun _ _ _ h => h) (Or.inl ⟨by rfl, ?hy9⟩) ?rest9
                          case hy9 => (intro w; go_simp; try with_reducible rfl)
                          refine wpAny_take (i := 12) (v := ?_) rfl (by kernel_rfl) (by kernel_rfl) (by kernel_rfl) (fun _ _ _ h => h) (Or.inl ⟨by rfl, ?hy10⟩) ?rest10
                          case hy10 => (intro w; go_simp; try with_reducible rfl)
                          refine wpAny_ready (rs := [13]) (by kernel_rfl) (by simp) ?_
                          refine AllReady.cons rfl (fun K hK => ?_) ?_
                          · go_simp
                            refine hK _ _ ?_
                            clear hK K
                            refine wpAny_ready (rs := [14]) (by kernel_rfl) (by simp) ?_
                            refine AllReady.cons rfl (fun K hK => ?_) ?_
                            · go_simp
                              refine hK _ _ ?_
                              clear hK K
                              refine wpAny_take (i := 15) (v := ?_) rfl (by kernel_rfl) (by kernel_rfl) (by kernel_rfl) (fun _ _ _ h => h) (Or.inl ⟨by rfl, ?hy11⟩) ?rest11
                              case hy11 => (intro w; go_simp; try with_reducible rfl)
                              refine wpAny_done (by kernel_rfl) ?_ _
                              go_wp2_with fail
                              go_meet
                              exact ⟨_, rfl, rfl, Bx.new _ _ _, (HJ.out.then hb4).then ((Ow.refl _).alloc _)⟩
                            exact AllReady.nil
                          exact AllReady.nil
                        refine AllReady.cons rfl (fun K hK => ?_) ?_
                        · go_simp
                          refine hK _ _ ?_
                          clear hK K
                          refine wpAny_ready (rs := [9]) (by kernel_rfl) (by simp) ?_
                          refine AllReady.cons rfl (fun K hK => ?_) ?_
                          · go_simp
                            go_wp2_with (go_at_call 21; refine (HFd.out _).mono ?_; rintro e w3 ⟨rfl, hb3⟩; have hb4 : Ow wr w3 := (by first | exact Ow.then (Ow.refl _).drew hb3 | exact Ow.then ((Ow.refl _).drewN _) hb3 | exact Ow.then ((Ow.refl _).alloc _).drew hb3 | exact Ow.then ((Ow.refl _).drew.alloc _) hb3 | exact Ow.then ((Ow.refl _).drew.alloc _).drew hb3); first | (have hS : Bx wr.heap.size (ocells zeroC) 25 w3 := (by first | exact ((Bx.new wr _ _).drewN _).then hb3 | exact Bx.then (Bx.new wr.drew _ _) hb3 | exact Bx.then ((Bx.new wr.drew _ _).drewN _) hb3); have s0 : w3.cell? ⟨wr.heap.size, 0, none⟩ = some (.int .i64 0) := hS.at rfl; have s1 : w3.cell? ⟨wr.heap.size, 1, none⟩ = some (.int .i64 0) := hS.at rfl; have s2 : w3.cell? ⟨wr.heap.size, 2, none⟩ = some (.int .i64 0) := hS.at rfl; have s3 : w3.cell? ⟨wr.heap.size, 3, none⟩ = some (.int .i64 0) := hS.at rfl; have s4 : w3.cell? ⟨wr.heap.size, 4, none⟩ = some (.int .i64 0) := hS.at rfl; have s5 : w3.cell? ⟨wr.heap.size, 5, none⟩ = some (.int .i64 0) := hS.at rfl; have s6 : w3.cell? ⟨wr.heap.size, 6, none⟩ = some (.int .u64 0) := hS.at rfl; have z0 := hS.z 0; have z1 := hS.z 1; have z2 := hS.z 2; have z3 := hS.z 3; have z4 := hS.z 4; have z5 := hS.z 5; have z6 := hS.z 6) | skip)
                            refine wpAny_take (i := 10) (v := ?_) rfl (by kernel_rfl) (by kernel_rfl) (by kernel_rfl) (fun _ _ _ h => h) (Or.inl ⟨by rfl, ?hy12⟩) ?rest12
                            case hy12 => (intro w; go_simp; try with_reducible rfl)
                            refine wpAny_take (i := 11) (v := ?_) rfl (by kernel_rfl) (by kernel_rfl) (by kernel_rfl) (fun _ _ _ h => h) (Or.inl ⟨by rfl, ?hy13⟩) ?rest13
                            case hy13 => (intro w; go_simp; try with_reducible rfl)
                            refine wpAny_take (i := 12) (v := ?_) rfl (by kernel_rfl) (by kernel_rfl) (by kernel_rfl) (fun _ _ _ h => h) (Or.inl ⟨by rfl, ?hy14⟩) ?rest14
                            case hy14 => (intro w; go_simp; try with_reducible rfl)
                            refine wpAny_ready (rs := [14]) (by kernel_rfl) (by simp) ?_
                            refine AllReady.cons rfl (fun K hK => ?_) ?_
                            · go_simp
                              refine hK _ _ ?_
                              clear hK K
                              refine wpAny_take (i := 15) (v := ?_) rfl (by kernel_rfl) (by kernel_rfl) (by kernel_rfl) (fun _ _ _ h => h) (Or.inl ⟨by rfl, ?hy15⟩) ?rest15
                              case hy15 => (intro w; go_simp; try with_reducible rfl)
                              refine wpAny_done (by kernel_rfl) ?_ _
                              go_wp2_with fail
                              go_meet
                              exact ⟨_, rfl, rfl, ((((((hS.set 0 _).set 1 _).set 2 _).set 3 _).set 4 _).set 5 _).set 6 _, (((((((HJ.out.then hb4).set hBl hGl 0 _).set hBl hGl 1 _).set hBl hGl 2 _).set hBl hGl 3 _).set hBl hGl 4 _).set hBl hGl 5 _).set hBl hGl 6 _⟩
                            exact AllReady.nil
                          exact AllReady.nil
                        exact AllReady.nil
                      refine AllReady.cons rfl (fun K hK => ?_) ?_
                      · go_simp
                        refine hK _ _ ?_
                        clear hK K
                        refine wpAny_ready (rs := [8]) (by kernel_rfl) (by simp) ?_
                        refine AllReady.cons rfl (fun K hK => ?_) ?_
                        · go_simp
                          refine hK _ _ ?_
                          clear hK K
                          refine wpAny_ready (rs := [9]) (by kernel_rfl) (by simp) ?_
                          refine AllReady.cons rfl (fun K hK => ?_) ?_
                          · go_simp
                            go_wp2_with (go_at_call 21; refine (HFd.out _).mono ?_; rintro e w3 ⟨rfl, hb3⟩; have hb4 : Ow wr w3 := (by first | exact Ow.then (Ow.refl _).drew hb3 | exact Ow.then ((Ow.refl _).drewN _) hb3 | exact Ow.then ((Ow.refl _).alloc _).drew hb3 | exact Ow.then ((Ow.refl _).drew.alloc _) hb3 | exact Ow.then ((Ow.refl _).drew.alloc _).drew hb3); first | (have hS : Bx wr.heap.size (ocells zeroC) 25 w3 := (by first | exact ((Bx.new wr _ _).drewN _).then hb3 | exact Bx.then (Bx.new wr.drew _ _) hb3 | exact Bx.then ((Bx.new wr.drew _ _).drewN _) hb3); have s0 : w3.cell? ⟨wr.heap.size, 0, none⟩ = some (.int .i64 0) := hS.at rfl; have s1 : w3.cell? ⟨wr.heap.size, 1, none⟩ = some (.int .i64 0) := hS.at rfl; have s2 : w3.cell? ⟨wr.heap.size, 2, none⟩ = some (.int .i64 0) := hS.at rfl; have s3 : w3.cell? ⟨wr.heap.size, 3, none⟩ = some (.int .i64 0) := hS.at rfl; have s4 : w3.cell? ⟨wr.heap.size, 4, none⟩ = some (.int .i64 0) := hS.at rfl; have s5 : w3.cell? ⟨wr.heap.size, 5, none⟩ = some (.int .i64 0) := hS.at rfl; have s6 : w3.cell? ⟨wr.heap.size, 6, none⟩ = some (.int .u64 0) := hS.at rfl; have z0 := hS.z 0; have z1 := hS.z 1; have z2 := hS.z 2; have z3 := hS.z 3; have z4 := hS.z 4; have z5 := hS.z 5; have z6 := hS.z 6) | skip)
                            refine wpAny_take (i := 10) (v := ?_) rfl (by kernel_rfl) (by kernel_rfl) (by kernel_rfl) (fun _ _ _ h => h) (Or.inl ⟨by rfl, ?hy16⟩) ?rest16
                            case hy16 => (intro w; go_simp; try with_reducible rfl)
                            refine wpAny_take (i := 11) (v := ?_) rfl (by kernel_rfl) (by kernel_rfl) (by kernel_rfl) (fun _ _ _ h => h) (Or.inl ⟨by rfl, ?hy17⟩) ?rest17
                            case hy17 => (intro w; go_simp; try with_reducible rfl)
                            refine wpAny_take (i := 12) (v := ?_) rfl (by kernel_rfl) (by kernel_rfl) (by kernel_rfl) (fun _ _ _ h => h) (Or.inl ⟨by rfl, ?hy18⟩) ?rest18
                            case hy18 => (intro w; go_simp; try with_reducible rfl)
                            refine wpAny_ready (rs := [14]) (by kernel_rfl) (by simp) ?_
                            refine AllReady.cons rfl (fun K hK => ?_) ?_
                            · go_simp
                              refine hK _ _ ?_
                              clear hK K
                              refine wpAny_take (i := 15) (v := ?_) rfl (by kernel_rfl) (by kernel_rfl) (by kernel_rfl) (fun _ _ _ h => h) (Or.inl ⟨by rfl, ?hy19⟩) ?rest19
                              case hy19 => (intro w; go_simp; try with_reducible rfl)
                              refine wpAny_done (by kernel_rfl) ?_ _
                              go_wp2_with fail
                              go_meet
                              exact ⟨_, rfl, rfl, ((((((hS.set 0 _).set 1 _).set 2 _).set 3 _).set 4 _).set 5 _).set 6 _, (((((((HJ.out.then hb4).set hBl hGl 0 _).set hBl hGl 1 _).set hBl hGl 2 _).set hBl hGl 3 _).set hBl hGl 4 _).set hBl hGl 5 _).set hBl hGl 6 _⟩
                            exact AllReady.nil
                          exact AllReady.nil
                        exact AllReady.nil
                      exact AllReady.nil
                    refine AllReady.cons rfl (fun K hK => ?_) ?_
                    · go_simp
                      refine hK _ _ ?_
                      clear hK K
                      refine wpAny_ready (rs := [0, 13]) (by kernel_rfl) (by simp) ?_
                      refine AllReady.cons rfl (fun K hK => ?_) ?_
                      · go_simp
                        refine hK _ _ ?_
                        clear hK K
                        refine wpAny_ready (rs := [9, 13]) (by kernel_rfl) (by simp) ?_
                        refine AllReady.cons rfl (fun K hK => ?_) ?_
                        · go_simp
                          go_wp2_with (go_at_call 21; refine (HFd.out _).mono ?_; rintro e w3 ⟨rfl, hb3⟩; have hb4 : Ow wr w3 := (by first | exact Ow.then (Ow.refl _).drew hb3 | exact Ow.then ((Ow.refl _).drewN _) hb3 | exact Ow.then ((Ow.refl _).alloc _).drew hb3 | exact Ow.then ((Ow.refl _).drew.alloc _) hb3 | exact Ow.then ((Ow.refl _).drew.alloc _).drew hb3); first | (have hS : Bx wr.heap.size (ocells zeroC) 25 w3 := (by first | exact ((Bx.new wr _ _).drewN _).then hb3 | exact Bx.then (Bx.new wr.drew _ _) hb3 | exact Bx.then ((Bx.new wr.drew _ _).drewN _) hb3); have s0 : w3.cell? ⟨wr.heap.size, 0, none⟩ = some (.int .i64 0) := hS.at rfl; have s1 : w3.cell? ⟨wr.heap.size, 1, none⟩ = some (.int .i64 0) := hS.at rfl; have s2 : w3.cell? ⟨wr.heap.size, 2, none⟩ = some (.int .i64 0) := hS.at rfl; have s3 : w3.cell? ⟨wr.heap.size, 3, none⟩ = some (.int .i64 0) := hS.at rfl; have s4 : w3.cell? ⟨wr.heap.size, 4, none⟩ = some (.int .i64 0) := hS.at rfl; have s5 : w3.cell? ⟨wr.heap.size, 5, none⟩ = some (.int .i64 0) := hS.at rfl; have s6 : w3.cell? ⟨wr.heap.size, 6, none⟩ = some (.int .u64 0) := hS.at rfl; have z0 := hS.z 0; have z1 := hS.z 1; have z2 := hS.z 2; have z3 := hS.z 3; have z4 := hS.z 4; have z5 := hS.z 5; have z6 := hS.z 6) | skip)
                          refine wpAny_take (i := 10) (v := ?_) rfl (by kernel_rfl) (by kernel_rfl) (by kernel_rfl) (fun _ _ _ h => h) (Or.inl ⟨by rfl, ?hy20⟩) ?rest20
                          case hy20 => (intro w; go_simp; try with_reducible rfl)
                          refine wpAny_take (i := 11) (v := ?_) rfl (by kernel_rfl) (by kernel_rfl) (by kernel_rfl) (fun _ _ _ h => h) (Or.inl ⟨by rfl, ?hy21⟩) ?rest21
                          case hy21 => (intro w; go_simp; try with_reducible rfl)
                          refine wpAny_take (i := 12) (v := ?_) rfl (by kernel_rfl) (by kernel_rfl) (by kernel_rfl) (fun _ _ _ h => h) (Or.inl ⟨by rfl, ?hy22⟩) ?rest22
                          case hy22 => (intro w; go_simp; try with_reducible rfl)
                          refine wpAny_ready (rs := [13]) (by kernel_rfl) (by simp) ?_
                          refine AllReady.cons rfl (fun K hK => ?_) ?_
                          · go_simp
                            refine hK _ _ ?_
                            clear hK K
                            refine wpAny_ready (rs := [14]) (by kernel_rfl) (by simp) ?_
                            refine AllReady.cons rfl (fun K hK => ?_) ?_
                            · go_simp
                              refine hK _ _ ?_
                              clear hK K
                              refine wpAny_take (i := 15) (v := ?_) rfl (by kernel_rfl) (by kernel_rfl) (by kernel_rfl) (fun _ _ _ h => h) (Or.inl ⟨by rfl, ?hy23⟩) ?rest23
                              case hy23 => (intro w; go_simp; try with_reducible rfl)
                              refine wpAny_done (by kernel_rfl) ?_ _
                              go_wp2_with fail
                              go_meet
                              exact ⟨_, rfl, rfl, Bx.new _ _ _, (HJ.out.then hb4).then ((Ow.refl _).alloc _)⟩
                            exact AllReady.nil
                          exact AllReady.nil
                        refine AllReady.cons rfl (fun K hK => ?_) ?_
                        · go_simp
                          refine hK _ _ ?_
                          clear hK K
                          refine wpAny_ready (rs := [9]) (by kernel_rfl) (by simp) ?_
                          refine AllReady.cons rfl (fun K hK => ?_) ?_
                          · go_simp
                            go_wp2_with (go_at_call 21; refine (HFd.out _).mono ?_; rintro e w3 ⟨rfl, hb3⟩; have hb4 : Ow wr w3 := (by first | exact Ow.then (Ow.refl _).drew hb3 | exact Ow.then ((Ow.refl _).drewN _) hb3 | exact Ow.then ((Ow.refl _).alloc _).drew hb3 | exact Ow.then ((Ow.refl _).drew.alloc _) hb3 | exact Ow.then ((Ow.refl _).drew.alloc _).drew hb3); first | (have hS : Bx wr.heap.size (ocells zeroC) 25 w3 := (by first | exact ((Bx.new wr _ _).drewN _).then hb3 | exact Bx.then (Bx.new wr.drew _ _) hb3 | exact Bx.then ((Bx.new wr.drew _ _).drewN _) hb3); have s0 : w3.cell? ⟨wr.heap.size, 0, none⟩ = some (.int .i64 0) := hS.at rfl; have s1 : w3.cell? ⟨wr.heap.size, 1, none⟩ = some (.int .i64 0) := hS.at rfl; have s2 : w3.cell? ⟨wr.heap.size, 2, none⟩ = some (.int .i64 0) := hS.at rfl; have s3 : w3.cell? ⟨wr.heap.size, 3, none⟩ = some (.int .i64 0) := hS.at rfl; have s4 : w3.cell? ⟨wr.heap.size, 4, none⟩ = some (.int .i64 0) := hS.at rfl; have s5 : w3.cell? ⟨wr.heap.size, 5, none⟩ = some (.int .i64 0) := hS.at rfl; have s6 : w3.cell? ⟨wr.heap.size, 6, none⟩ = some (.int .u64 0) := hS.at rfl; have z0 := hS.z 0; have z1 := hS.z 1; have z2 := hS.z 2; have z3 := hS.z 3; have z4 := hS.z 4; have z5 := hS.z 5; have z6 := hS.z 6) | skip)
                            refine wpAny_take (i := 10) (v := ?_) rfl (by kernel_rfl) (by kernel_rfl) (by kernel_rfl) (fun _ _ _ h => h) (Or.inl ⟨by rfl, ?hy24⟩) ?rest24
                            case hy24 => (intro w; go_simp; try with_reducible rfl)
                            refine wpAny_take (i := 11) (v := ?_) rfl (by kernel_rfl) (by kernel_rfl) (by kernel_rfl) (fun _ _ _ h => h) (Or.inl ⟨by rfl, ?hy25⟩) ?rest25
                            case hy25 => (intro w; go_simp; try with_reducible rfl)
                            refine wpAny_take (i := 12) (v := ?_) rfl (by kernel_rfl) (by kernel_rfl) (by kernel_rfl) (fun _ _ _ h => h) (Or.inl ⟨by rfl, ?hy26⟩) ?rest26
                            case hy26 => (intro w; go_simp; try with_reducible rfl)
                            refine wpAny_ready (rs := [14]) (by kernel_rfl) (by simp) ?_
                            refine AllReady.cons rfl (fun K hK => ?_) ?_
                            · go_simp
                              refine hK _ _ ?_
                              clear hK K
                              refine wpAny_take (i := 15) (v := ?_) rfl (by kernel_rfl) (by kernel_rfl) (by kernel_rfl) (fun _ _ _ h => h) (Or.inl ⟨by rfl, ?hy27⟩) ?rest27
                              case hy27 => (intro w; go_simp; try with_reducible rfl)
                              refine wpAny_done (by kernel_rfl) ?_ _
                              go_wp2_with fail
                              go_meet
                              exact ⟨_, rfl, rfl, ((((((hS.set 0 _).set 1 _).set 2 _).set 3 _).set 4 _).set 5 _).set 6 _, (((((((HJ.out.then hb4).set hBl hGl 0 _).set hBl hGl 1 _).set hBl hGl 2 _).set hBl hGl 3 _).set hBl hGl 4 _).set hBl hGl 5 _).set hBl hGl 6 _⟩
                            exact AllReady.nil
                          exact AllReady.nil
                        exact AllReady.nil
                      refine AllReady.cons rfl (fun K hK => ?_) ?_
                      · go_simp
                        refine hK _ _ ?_
                        clear hK K
                        refine wpAny_ready (rs := [0]) (by kernel_rfl) (by simp) ?_
                        refine AllReady.cons rfl (fun K hK => ?_) ?_
                        · go_simp
                          refine hK _ _ ?_
                          clear hK K
                          refine wpAny_ready (rs := [9]) (by kernel_rfl) (by simp) ?_
                          refine AllReady.cons rfl (fun K hK => ?_) ?_
                          · go_simp
                            go_wp2_with (go_at_call 21; refine (HFd.out _).mono ?_; rintro e w3 ⟨rfl, hb3⟩; have hb4 : Ow wr w3 := (by first | exact Ow.then (Ow.refl _).drew hb3 | exact Ow.then ((Ow.refl _).drewN _) hb3 | exact Ow.then ((Ow.refl _).alloc _).drew hb3 | exact Ow.then ((Ow.refl _).drew.alloc _) hb3 | exact Ow.then ((Ow.refl _).drew.alloc _).drew hb3); first | (have hS : Bx wr.heap.size (ocells zeroC) 25 w3 := (by first | exact ((Bx.new wr _ _).drewN _).then hb3 | exact Bx.then (Bx.new wr.drew _ _) hb3 | exact Bx.then ((Bx.new wr.drew _ _).drewN _) hb3); have s0 : w3.cell? ⟨wr.heap.size, 0, none⟩ = some (.int .i64 0) := hS.at rfl; have s1 : w3.cell? ⟨wr.heap.size, 1, none⟩ = some (.int .i64 0) := hS.at rfl; have s2 : w3.cell? ⟨wr.heap.size, 2, none⟩ = some (.int .i64 0) := hS.at rfl; have s3 : w3.cell? ⟨wr.heap.size, 3, none⟩ = some (.int .i64 0) := hS.at rfl; have s4 : w3.cell? ⟨wr.heap.size, 4, none⟩ = some (.int .i64 0) := hS.at rfl; have s5 : w3.cell? ⟨wr.heap.size, 5, none⟩ = some (.int .i64 0) := hS.at rfl; have s6 : w3.cell? ⟨wr.heap.size, 6, none⟩ = some (.int .u64 0) := hS.at rfl; have z0 := hS.z 0; have z1 := hS.z 1; have z2 := hS.z 2; have z3 := hS.z 3; have z4 := hS.z 4; have z5 := hS.z 5; have z6 := hS.z 6) | skip)
                            refine wpAny_take (i := 10) (v := ?_) rfl (by kernel_rfl) (by kernel_rfl) (by kernel_rfl) (fun _ _ _ h => h) (Or.inl ⟨by rfl, ?hy28⟩) ?rest28
                            case hy28 => (intro w; go_simp; try with_reducible rfl)
                            refine wpAny_take (i := 11) (v := ?_) rfl (by kernel_rfl) (by kernel_rfl) (by kernel_rfl) (fun _ _ _ h => h) (Or.inl ⟨by rfl, ?hy29⟩) ?rest29
                            case hy29 => (intro w; go_simp; try with_reducible rfl)
                            refine wpAny_take (i := 12) (v := ?_) rfl (by kernel_rfl) (by kernel_rfl) (by kernel_rfl) (fun _ _ _ h => h) (Or.inl ⟨by rfl, ?hy30⟩) ?rest30
                            case hy30 => (intro w; go_simp; try with_reducible rfl)
                            refine wpAny_ready (rs := [14]) (by kernel_rfl) (by simp) ?_
                            refine AllReady.cons rfl (fun K hK => ?_) ?_
                            · go_simp
                              refine hK _ _ ?_
                              clear hK K
                              refine wpAny_take (i := 15) (v := ?_) rfl (by kernel_rfl) (by kernel_rfl) (by kernel_rfl) (fun _ _ _ h => h) (Or.inl ⟨by rfl, ?hy31⟩) ?rest31
                              case hy31 => (intro w; go_simp; try with_reducible rfl)
                              refine wpAny_done (by kernel_rfl) ?_ _
                              go_wp2_with fail
                              go_meet
                              exact ⟨_, rfl, rfl, ((((((hS.set 0 _).set 1 _).set 2 _).set 3 _).set 4 _).set 5 _).set 6 _, (((((((HJ.out.then hb4).set hBl hGl 0 _).set hBl hGl 1 _).set hBl hGl 2 _).set hBl hGl 3 _).set hBl hGl 4 _).set hBl hGl 5 _).set hBl hGl 6 _⟩
                            exact AllReady.nil
                          exact AllReady.nil
                        exact AllReady.nil
                      exact AllReady.nil
                    refine AllReady.cons rfl (fun K hK => ?_) ?_
                    · go_simp
                      refine hK _ _ ?_
                      clear hK K
                      refine wpAny_ready (rs := [0, 8]) (by kernel_rfl) (by simp) ?_
                      refine AllReady.cons rfl (fun K hK => ?_) ?_
                      · go_simp
                        refine hK _ _ ?_
                        clear hK K
                        refine wpAny_ready (rs := [8]) (by kernel_rfl) (by simp) ?_
                        refine AllReady.cons rfl (fun K hK => ?_) ?_
                        · go_simp
                          refine hK _ _ ?_
                          clear hK K
                          refine wpAny_ready (rs := [9]) (by kernel_rfl) (by simp) ?_
                          refine AllReady.cons rfl (fun K hK => ?_) ?_
                          · go_simp
                            go_wp2_with (go_at_call 21; refine (HFd.out _).mono ?_; rintro e w3 ⟨rfl, hb3⟩; have hb4 : Ow wr w3 := (by first | exact Ow.then (Ow.refl _).drew hb3 | exact Ow.then ((Ow.refl _).drewN _) hb3 | exact Ow.then ((Ow.refl _).alloc _).drew hb3 | exact Ow.then ((Ow.refl _).drew.alloc _) hb3 | exact Ow.then ((Ow.refl _).drew.alloc _).drew hb3); first | (have hS : Bx wr.heap.size (ocells zeroC) 25 w3 := (by first | exact ((Bx.new wr _ _).drewN _).then hb3 | exact Bx.then (Bx.new wr.drew _ _) hb3 | exact Bx.then ((Bx.new wr.drew _ _).drewN _) hb3); have s0 : w3.cell? ⟨wr.heap.size, 0, none⟩ = some (.int .i64 0) := hS.at rfl; have s1 : w3.cell? ⟨wr.heap.size, 1, none⟩ = some (.int .i64 0) := hS.at rfl; have s2 : w3.cell? ⟨wr.heap.size, 2, none⟩ = some (.int .i64 0) := hS.at rfl; have s3 : w3.cell? ⟨wr.heap.size, 3, none⟩ = some (.int .i64 0) := hS.at rfl; have s4 : w3.cell? ⟨wr.heap.size, 4, none⟩ = some (.int .i64 0) := hS.at rfl; have s5 : w3.cell? ⟨wr.heap.size, 5, none⟩ = some (.int .i64 0) := hS.at rfl; have s6 : w3.cell? ⟨wr.heap.size, 6, none⟩ = some (.int .u64 0) := hS.at rfl; have z0 := hS.z 0; have z1 := hS.z 1; have z2 := hS.z 2; have z3 := hS.z 3; have z4 := hS.z 4; have z5 := hS.z 5; have z6 := hS.z 6) | skip)
                            refine wpAny_take (i := 10) (v := ?_) rfl (by kernel_rfl) (by kernel_rfl) (by kernel_rfl) (fun _ _ _ h => h) (Or.inl ⟨by rfl, ?hy32⟩) ?rest32
                            case hy32 => (intro w; go_simp; try with_reducible rfl)
                            refine wpAny_take (i := 11) (v := ?_) rfl (by kernel_rfl) (by kernel_rfl) (by kernel_rfl) (fun _ _ _ h => h) (Or.inl ⟨by rfl, ?hy33⟩) ?rest33
                            case hy33 => (intro w; go_simp; try with_reducible rfl)
                            refine wpAny_take (i := 12) (v := ?_) rfl (by kernel_rfl) (by kernel_rfl) (by kernel_rfl) (fun _ _ _ h => h) (Or.inl ⟨by rfl, ?hy34⟩) ?rest34
                            case hy34 => (intro w; go_simp; try with_reducible rfl)
                            refine wpAny_ready (rs := [14]) (by kernel_rfl) (by simp) ?_
                            refine AllReady.cons rfl (fun K hK => ?_) ?_
                            · go_simp
                              refine hK _ _ ?_
                              clear hK K
                              refine wpAny_take (i := 15) (v := ?_) rfl (by kernel_rfl) (by kernel_rfl) (by kernel_rfl) (fun _ _ _ h => h) (Or.inl ⟨by rfl, ?hy35⟩) ?rest35
                              case hy35 => (intro w; go_simp; try with_reducible rfl)
                              refine wpAny_done (by kernel_rfl) ?_ _
                              go_wp2_with fail
                              go_meet
                              exact ⟨_, rfl, rfl, ((((((hS.set 0 _).set 1 _).set 2 _).set 3 _).set 4 _).set 5 _).set 6 _, (((((((HJ.out.then hb4).set hBl hGl 0 _).set hBl hGl 1 _).set hBl hGl 2 _).set hBl hGl 3 _).set hBl hGl 4 _).set hBl hGl 5 _).set hBl hGl 6 _⟩
                            exact AllReady.nil
                          exact AllReady.nil
                        exact AllReady.nil
                      refine AllReady.cons rfl (fun K hK => ?_) ?_
                      · go_simp
                        refine hK _ _ ?_
                        clear hK K
                        refine wpAny_ready (rs := [0]) (by kernel_rfl) (by simp) ?_
                        refine AllReady.cons rfl (fun K hK => ?_) ?_
                        · go_simp
                          refine hK _ _ ?_
                          clear hK K
                          refine wpAny_ready (rs := [9]) (by kernel_rfl) (by simp) ?_
                          refine AllReady.cons rfl (fun K hK => ?_) ?_
                          · go_simp
                            go_wp2_with (go_at_call 21; refine (HFd.out _).mono ?_; rintro e w3 ⟨rfl, hb3⟩; have hb4 : Ow wr w3 := (by first | exact Ow.then (Ow.refl _).drew hb3 | exact Ow.then ((Ow.refl _).drewN _) hb3 | exact Ow.then ((Ow.refl _).alloc _).drew hb3 | exact Ow.then ((Ow.refl _).drew.alloc _) hb3 | exact Ow.then ((Ow.refl _).drew.alloc _).drew hb3); first | (have hS : Bx wr.heap.size (ocells zeroC) 25 w3 := (by first | exact ((Bx.new wr _ _).drewN _).then hb3 | exact Bx.then (Bx.new wr.drew _ _) hb3 | exact Bx.then ((Bx.new wr.drew _ _).drewN _) hb3); have s0 : w3.cell? ⟨wr.heap.size, 0, none⟩ = some (.int .i64 0) := hS.at rfl; have s1 : w3.cell? ⟨wr.heap.size, 1, none⟩ = some (.int .i64 0) := hS.at rfl; have s2 : w3.cell? ⟨wr.heap.size, 2, none⟩ = some (.int .i64 0) := hS.at rfl; have s3 : w3.cell? ⟨wr.heap.size, 3, none⟩ = some (.int .i64 0) := hS.at rfl; have s4 : w3.cell? ⟨wr.heap.size, 4, none⟩ = some (.int .i64 0) := hS.at rfl; have s5 : w3.cell? ⟨wr.heap.size, 5, none⟩ = some (.int .i64 0) := hS.at rfl; have s6 : w3.cell? ⟨wr.heap.size, 6, none⟩ = some (.int .u64 0) := hS.at rfl; have z0 := hS.z 0; have z1 := hS.z 1; have z2 := hS.z 2; have z3 := hS.z 3; have z4 := hS.z 4; have z5 := hS.z 5; have z6 := hS.z 6) | skip)
                            refine wpAny_take (i := 10) (v := ?_) rfl (by kernel_rfl) (by kernel_rfl) (by kernel_rfl) (fun _ _ _ h => h) (Or.inl ⟨by rfl, ?hy36⟩) ?rest36
                            case hy36 => (intro w; go_simp; try with_reducible rfl)
                            refine wpAny_take (i := 11) (v := ?_) rfl (by kernel_rfl) (by kernel_rfl) (by kernel_rfl) (fun _ _ _ h => h) (Or.inl ⟨by rfl, ?hy37⟩) ?rest37
                            case hy37 => (intro w; go_simp; try with_reducible rfl)
                            refine wpAny_take (i := 12) (v := ?_) rfl (by kernel_rfl) (by kernel_rfl) (by kernel_rfl) (fun _ _ _ h => h) (Or.inl ⟨by rfl, ?hy38⟩) ?rest38
                            case hy38 => (intro w; go_simp; try with_reducible rfl)
                            refine wpAny_ready (rs := [14]) (by kernel_rfl) (by simp) ?_
                            refine AllReady.cons rfl (fun K hK => ?_) ?_
                            · go_simp
                              refine hK _ _ ?_
                              clear hK K
                              refine wpAny_take (i := 15) (v := ?_) rfl (by kernel_rfl) (by kernel_rfl) (by kernel_rfl) (fun _ _ _ h => h) (Or.inl ⟨by rfl, ?hy39⟩) ?rest39
                              case hy39 => (intro w; go_simp; try with_reducible rfl)
                              refine wpAny_done (by kernel_rfl) ?_ _
                              go_wp2_with fail
                              go_meet
                              exact ⟨_, rfl, rfl, ((((((hS.set 0 _).set 1 _).set 2 _).set 3 _).set 4 _).set 5 _).set 6 _, (((((((HJ.out.then hb4).set hBl hGl 0 _).set hBl hGl 1 _).set hBl hGl 2 _).set hBl hGl 3 _).set hBl hGl 4 _).set hBl hGl 5 _).set hBl hGl 6 _⟩
                            exact AllReady.nil
                          exact AllReady.nil
                        exact AllReady.nil
                      exact AllReady.nil
                    exact AllReady.nil
                  case rest =>
                    obtain ⟨B2, rfl, rfl, hcut⟩ := hcut
                    have HB2 := Lib.hid hcut.out.1
                    have HJ2 := Lib.hid hcut.out.2
                    have HJr := Lib.hid hcut.out.2.res
                    have HJc := Lib.hid hcut.out.2.c
                    clear hcut HJ f0 f1 r0 r1 r2 r3 r4 r5 r6
                    rcases HM2.out with rfl | rfl | rfl
                    · have HEx : Hid (E1 = rdE (kf k) fs.tail (i + 1)) := by
                        rw [Hid, HEn.out, ← HE1.out]; rcases HE6.out with h0 | h0 <;> rw [h0] <;> rfl
                      go_wp2_with (first
                        | (refine wpList_load_row rfl 25 _ rfl B2 rfl 25 _ (0, 0) _ HB2.out Tryz.underlying25 rfl (by kernel_rfl) ?_)
                        | (refine wpList_store_rowOf rfl 25 (.tmp 9) (.tmp 80) rfl B (by kernel_rfl) (by kernel_rfl) 25 _ HJc.out (by kernel_rfl) (by kernel_rfl) (by kernel_rfl) ?_))
                      go_roundw
                      case rel => first | exact ⟨i + 1, E1, by omega, rfl, by go_num, HEx, HE6, by rw [Hid, ← HDn.out (by decide)]; exact HJ2.out.row _⟩ | ((repeat apply Exists.intro); exact ⟨⟨(by omega : i + 1 ≤ L.size), rfl, by go_num, HEx, HE6, by rw [Hid, ← HDn.out (by decide)]; exact HJ2.out.row _⟩, rfl⟩)
                      case measure => simp [intOf]; omega
                    · have HRx : Hid (readE (kf k) fs.tail = 6) := HS6.out rfl
                      go_wp2_with (refine wpList_store_rowOf rfl 25 (.tmp 2) (.tmp 75) rfl w.heap.size (by kernel_rfl) (by kernel_rfl) 25 _ HJr.out (by kernel_rfl) (by kernel_rfl) (by kernel_rfl) ?_)
                      refine rp_ret (c := zeroC) (setRow_heap _ _ _ _ _ _ HJr.out) rfl rfl ?_
                      unfold PaPost
                      rw [HPs.out.1, HPs.out.2, HRx.out, if_neg (by decide)]
                      exact ⟨rfl, HJ2.out.ow.row (Nat.le_refl _) _⟩
                    · have HEx : Hid ((7 : Int) = rdE (kf k) fs.tail (i + 1)) := by
                        rw [Hid, HEn.out, ← HE1.out]; rcases HE6.out with h0 | h0 <;> rw [h0] <;> rfl
                      go_wp2_with (first
                        | (refine wpList_load_row rfl 25 _ rfl B2 rfl 25 _ (0, 0) _ HB2.out Tryz.underlying25 rfl (by kernel_rfl) ?_)
                        | (refine wpList_store_rowOf rfl 25 (.tmp 9) (.tmp 80) rfl B (by kernel_rfl) (by kernel_rfl) 25 _ HJc.out (by kernel_rfl) (by kernel_rfl) (by kernel_rfl) ?_))
                      go_roundw
                      case rel => first | exact ⟨i + 1, 7, by omega, rfl, by go_num, HEx, .inr rfl, by rw [Hid, ← HDn.out (by decide)]; exact HJ2.out.row _⟩ | ((repeat apply Exists.intro); exact ⟨⟨(by omega : i + 1 ≤ L.size), rfl, by go_num, HEx, .inr rfl, by rw [Hid, ← HDn.out (by decide)]; exact HJ2.out.row _⟩, rfl⟩)
                      case measure => simp [intOf]; omega
                · have el : decide (i < L.size) = false := by simpa using hil
                  have HF1 : Hid (E1 = readE (kf k) fs.tail) := by rw [Hid, HE1.out]; exact Sc.rdE_all HTl.out (by rw [← HLs.out]; omega)
                  have HF2 : Hid (rdC (bareC0 k) (kf k) fs.tail i = readC (bareC0 k) (kf k) fs.tail) := Sc.rdC_all HTl.out (by rw [← HLs.out]; omega)
                  have HJr := Lib.hid HJ.out.res
                  have HJc := Lib.hid HJ.out.c
                  clear hil
                  rcases HE6.out with rfl | rfl
                  · go_wp2_with (first
                      | (refine wpList_load_row rfl 25 _ rfl B rfl 25 _ (0, 0) _ HJc.out Tryz.underlying25 rfl (by kernel_rfl) ?_)
                      | (refine wpList_store_rowOf rfl 25 (.tmp 2) (.tmp 85) rfl w.heap.size (by kernel_rfl) (by kernel_rfl) 25 _ HJr.out (by kernel_rfl) (by kernel_rfl) (by kernel_rfl) ?_))
                    refine rp_ret (c := rdC (bareC0 k) (kf k) fs.tail i) (setRow_heap _ _ _ _ _ _ HJr.out) rfl rfl ?_
                    unfold PaPost
                    rw [HPs.out.1, HPs.out.2, if_pos HF1.out.symm, ← HF1.out, HF2.out]
                    exact ⟨rfl, HJ.out.ow.row (Nat.le_refl _) _⟩
                  · go_wp2_with (refine wpList_store_rowOf rfl 25 (.tmp 2) (.tmp 83) rfl w.heap.size (by kernel_rfl) (by kernel_rfl) 25 _ HJr.out (by kernel_rfl) (by kernel_rfl) (by kernel_rfl) ?_)
                    refine rp_ret (c := zeroC) (setRow_heap _ _ _ _ _ _ HJr.out) rfl rfl ?_
                    unfold PaPost
                    rw [HPs.out.1, HPs.out.2, if_neg (by rw [← HF1.out]; decide), ← HF1.out]
                    exact ⟨rfl, HJ.out.ow.row (Nat.le_refl _) _⟩
          · have hw1 : (sx.toList == W1.toList) = false := beq_eq_false_iff_ne.2 (fun e => hw (by rw [ba_toList, ba_toList] at e; exact ba_ext e))
            have hw2 : (sx.toList != W1.toList) = true := by rw [bne, hw1]; rfl
            have HK := Lib.hid (HKn.out (by
              rw [HKh.out, beq_eq_false_iff_ne]
              intro e
              simp only [Prod.mk.injEq] at e
              apply hw
              rw [← HXx.out.2, str_of HW1.out, e.1]))
            clear hw
            go_wp2_with (go_at_call 20; refine (HRw.out _).mono ?_; rintro e W ⟨rfl, rfl⟩)
            go_roundw
            case rel => exact ⟨k + 1, by omega, by omega, by go_num, HK.out, HR⟩
            case measure => simp [intOf]; omega
        · have hbi : ((N : Int) != (L.size : Int) + 1) = true := bne_iff_ne.2 (by omega)
          have HK := Lib.hid (HKn.out (by unfold Sc.fits; rw [HNl.out, ← HLs.out, beq_eq_false_iff_ne.2 hb, Bool.false_and]))
          clear hb
          go_wp2_with (go_at_call 20; refine (HRw.out _).mono ?_; rintro e W ⟨rfl, rfl⟩)
          go_roundw
          case rel => exact ⟨k + 1, by omega, by omega, by go_num, HK.out, HR⟩
          case measure => simp [intOf]; omega
      · have hk12 : k = 12 := by omega
        subst hk12
        have HE := Lib.hid (par_none (l := s.data.toList) HM.out (by rw [HFs.out]; exact Sc.kind_none HN.out))
        clear hlt hk
        have HXr := Lib.hid HR.out.res
        go_wp2_with (refine wpList_store_rowOf rfl 25 (.tmp 2) (.tmp 86) rfl w.heap.size (by kernel_rfl) (by kernel_rfl) 25 _ HXr.out (by kernel_rfl) (by kernel_rfl) (by kernel_rfl) ?_)
        refine rp_ret (c := zeroC) (setRow_heap _ _ _ _ _ _ HXr.out) rfl rfl ?_
        unfold PaPost
        rw [HE.out.1, HE.out.2]
        exact ⟨rfl, HR.out.ow.row (Nat.le_refl _) _⟩
  · have HE := Lib.hid (par_bad (l := s.data.toList) (by rw [HM.out]; exact hm0))
    have hb0 : (m == 0) = false := beq_eq_false_iff_ne.2 hm0
    clear hm0
    go_enter Tryz.func8, Tryz.ntmps8
    go_wp2_with fail
    (go_at_call 19; refine (HS.out _ hs).mono ?_; rintro e w1 ⟨fa, fc, rfl, hb1, hf1⟩)
    have HX1 := Lib.hid (HX.out.then hb1)
    have HO1 := Lib.hid (HA.out.then hb1)
    clear hb1 hf1
    go_wp2_with (refine wpList_store_rowOf rfl 25 (.tmp 2) (.tmp 21) rfl w.heap.size (by kernel_rfl) (by kernel_rfl) 25 _ HX1.out (by kernel_rfl) (by kernel_rfl) (by kernel_rfl) ?_)
    refine rp_ret (c := zeroC) (setRow_heap _ _ _ _ _ _ HX1.out) rfl rfl ?_
    unfold PaPost
    rw [HE.out.1, HE.out.2, HM.out]
    exact ⟨rfl, HO1.out.row (Nat.le_refl _) _⟩
end Go.Proofs.YtaojogaakhidhaaGreatDoor

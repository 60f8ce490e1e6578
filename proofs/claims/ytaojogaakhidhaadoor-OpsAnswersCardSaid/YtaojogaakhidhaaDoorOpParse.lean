/- Package ops: Parse. -/
import Derived.Test.YtaojogaakhidhaaDoorOpRead
import Derived.Laws.ResultCell
import Derived.Deep.QuietTactic
import Derived.BigQuiet
namespace Go.Proofs.YtaojogaakhidhaaDoor
open Go.RowKit
open Sc (OC fits kindOf parE parC readE readC kf kw zeroC bareC0)
open Wd (splitS splitE)

theorem par_bad {l : List UInt8} (h : splitE l ≠ 0) : parE l = splitE l ∧ parC l = zeroC := by
  have h1 : parE l = splitE l := by unfold parE; rw [if_pos h]
  exact ⟨h1, by unfold parC; rw [h1, if_neg h]⟩
theorem par_none {l : List UInt8} (h : splitE l = 0) (hk : kindOf (splitS l) = none) : parE l = 6 ∧ parC l = zeroC := by
  have h1 : parE l = 6 := by unfold parE; rw [if_neg (fun e => e h), hk]
  exact ⟨h1, by unfold parC; rw [h1]; rfl⟩
theorem par_some {l : List UInt8} {k : Nat} (h : splitE l = 0) (hk : kindOf (splitS l) = some k) : parE l = readE (kf k) (splitS l).tail ∧ parC l = if readE (kf k) (splitS l).tail = 0 then readC (bareC0 k) (kf k) (splitS l).tail else zeroC := by
  have h1 : parE l = readE (kf k) (splitS l).tail := by unfold parE; rw [if_neg (fun e => e h), hk]
  exact ⟨h1, by unfold parC; rw [h1, hk]⟩
/-- The result, read out of its block. -/
theorem oc_ret {P : Ending → World → Prop} {W : World} {u : Array Value} {R : Nat} {c : OC} {m : Int} (hR : Bx R (ocells c) 24 W)
    (h2 : u[2]? = some (.pointer (some ⟨R, 0, none⟩))) (h3 : u[3]? = some (.int .i64 m)) (hq : P (.returned (.tuple #[.agg (ocells c), .int .i64 m])) W) :
    bodyPost Tryd.prog Tryd.f11 P Exit.ret { tmps := u, defers := [] } W := by
  refine bodyPost_ret (v := .tuple #[.agg (ocells c), .int .i64 m]) ?_ rfl hq
  have hp : u.getD 2 undef = .pointer (some ⟨R, 0, none⟩) := by simp [h2]
  have hm : u.getD 3 undef = .int .i64 m := by simp [h3]
  rw [results_cell_tmp Tryd.results11, hp, hm]
  have hl := run_loadVar_row (P := Tryd.prog) W R 24 24 (ocells c) (0, 0) _ hR Tryd.underlying24 rfl (by kernel_rfl)
  simp only [asAddr, Sem.run_pure, Result.andThen_ok, hl]
theorem FC.tail {G off : Nat} {xs : List (List UInt8 × Bool)} {W : World} (h : FC G off xs W) : FC G (off + 2) xs.tail W :=
  ⟨h.lt, fun i x hx => by
    have := h.fld (i + 1) x (by rw [← hx]; cases xs <;> simp)
    rwa [show off + (i + 1) * 2 = off + 2 + i * 2 by omega] at this⟩
theorem sl_tail (G off L fc : Nat) (W : World) : (Instr.slice 51 (.slice (some ⟨G, off, none⟩) (L + 1) fc) (some (.int .i64 1)) none none).run Tryd.prog W = .ok (.slice (some ⟨G, if fc = 1 then off else off + 2, none⟩) L (fc - 1)) W := by
  have e2 : (sizeOf (Tryd.prog.elem 51)).run Tryd.prog W = .ok 2 W := by kernel_rfl
  rw [run_slice_l W 51 _ _ _ (by kernel_rfl) .i64 1 (by omega) (by omega), e2]
  show Result.ok (sliced _ _ _ _ _) W = _
  unfold sliced
  by_cases h : fc = 1
  · subst h; simp
  · simp [h, Addr.add]
theorem FC.cut {G off fc : Nat} {xs : List (List UInt8 × Bool)} {W : World} (h : FC G off xs W) (hc : xs.length ≤ fc) : FC G (if fc = 1 then off else off + 2) xs.tail W := by
  by_cases h1 : fc = 1
  · refine ⟨h.lt, fun i x hx => ?_⟩
    have : xs.tail = [] := by
      match xs, hc with
      | [], _ => rfl
      | [_], _ => rfl
      | _ :: _ :: _, hc => simp at hc; omega
    rw [this] at hx; simp at hx
  · rw [if_neg h1]; exact h.tail
theorem read_at (w0 w : World) (n g G off cap bp L : Nat) (nm : ByteArray) (q : Option Addr) (xs : List (List UInt8 × Bool)) (c C : OC) (E : Int) (hE : readE (kf (n : Int)) xs = E) (hC : readC c (kf (n : Int)) xs = C) (h1 : 1 ≤ n) (h11 : n ≤ 11) (hq : n ≤ 10 → q = some ⟨g, 0, none⟩)
    (hL : L = (kf (n : Int)).length) (hl : xs.length = L) (hxs : ∀ x ∈ xs, x.1.length ≤ 9000) (hp : w0.heap.size ≤ bp) (hR : RI w0 w bp n g G off xs c w) (hgl : Gl w0) :
    Calls Tryd.prog 26 #[.agg #[.string nm, .slice q L L], .pointer (some ⟨bp, 0, none⟩), .slice (some ⟨G, off, none⟩) L cap] w (RdP w0 w bp E C) := by
  have h := read_any w0 w n g G off cap bp nm q xs c h1 h11 hq (by rw [hl, hL]) hxs hp hR hgl
  rw [hl, hE, hC, ← hL] at h
  exact h
theorem idx_zero (g : Nat → Nat) (W : World) : (Instr.index 57 (.agg (tabCells g)) (.int .i64 0)).run Tryd.prog W = .ok (.agg #[.string ⟨#[]⟩, .slice none 0 0]) W := by kernel_rfl
/-- What stands between the rounds of Parse. -/
structure PR (w : World) (g : Nat → Nat) (fs : List (List UInt8 × Bool)) (fa : Option Addr) (W : World) : Prop where
  ow : Ow w W
  res : Bx w.heap.size (ocells zeroC) 24 W
  tab : ∀ k : Nat, 1 ≤ k → k ≤ 10 → w.heap.size < g k ∧ Bx (g k) (intCells (kfInts k)) 3 W
  fs : fs ≠ [] → ∃ G off, fa = some ⟨G, off, none⟩ ∧ w.heap.size < G ∧ FC G off fs W
theorem PR.then {w : World} {g : Nat → Nat} {fs : List (List UInt8 × Bool)} {fa : Option Addr} {W W' : World} (h : PR w g fs fa W) (hb : Ow W W') : PR w g fs fa W' :=
  ⟨Ow.then h.ow hb, h.res.then hb, fun k h1 h2 => ⟨(h.tab k h1 h2).1, (h.tab k h1 h2).2.then hb⟩, fun hne => by obtain ⟨G, off, e1, e2, e3⟩ := h.fs hne; exact ⟨G, off, e1, e2, e3.then hb⟩⟩
theorem split_short (l : List UInt8) : ∀ x ∈ splitS l, x.1.length ≤ 9000 := by
  intro x hx
  have : x.1.length ≤ 2000 := by
    unfold Wd.splitS at hx
    split at hx
    · simp at hx
    · split at hx
      · simp at hx
      · split at hx
        · simp at hx
        · rename_i fs _ hn
          rcases Nat.lt_or_ge 2000 x.1.length with h2 | h2
          · exact absurd (.inl (List.any_eq_true.2 ⟨x, hx, by simpa [Wd.longF] using h2⟩)) hn
          · exact h2
  omega
/-- Where Split's fields lie: behind the result's block. -/
theorem split_far (s : ByteArray) (m : Int) (hm : splitE s.data.toList = m) (w : World) (hs : s.size ≤ 9000) (hg : Gl w) :
    Calls Tryd.prog 24 #[.string s] w fun e w' => ∃ fa fc, e = .returned (.tuple #[.slice fa (splitS s.data.toList).length fc, .int .i64 m]) ∧ Ow w w' ∧ (splitS s.data.toList).length ≤ fc ∧ (splitS s.data.toList ≠ [] → ∃ G off, fa = some ⟨G, off, none⟩ ∧ w.heap.size ≤ G ∧ FC G off (splitS s.data.toList) w') := by
  subst hm
  refine (Split_any s w hs hg).mono fun e w' ⟨v, h1, h2, h3⟩ => ?_
  rcases Joins.ownsRow_forms h2 with ⟨rfl, h0⟩ | ⟨G, cap, rfl⟩
  · exact ⟨none, 0, by rw [h1, h0], h3, by omega, fun h => absurd (List.length_eq_zero_iff.1 h0) h⟩
  · have hcap : (splitS s.data.toList).length ≤ cap := by
      rcases h2.2 with ⟨e, _⟩ | ⟨g', cap', _, e, _, _, hc, _⟩
      · cases e
      · cases e; exact hc
    refine ⟨_, cap, h1, h3, hcap, fun _ => ⟨G, 0, rfl, (h2.lt G rfl).1, (h2.lt G rfl).2, fun i x hx => ?_⟩⟩
    have hi := (List.getElem?_eq_some_iff.1 hx).1
    obtain ⟨a1, a2⟩ := cellsF_at _ i x hx
    rw [Nat.zero_add, h2.cellAt (i * 2) (by omega), h2.cellAt (i * 2 + 1) (by omega)]
    exact ⟨a1, a2⟩
def PaPost (s : ByteArray) (w : World) (e : Ending) (w' : World) : Prop := e = .returned (.tuple #[.agg (ocells (parC s.data.toList)), .int .i64 (parE s.data.toList)]) ∧ Ow w w'
set_option maxRecDepth 100000 in
set_option maxHeartbeats 8000000 in
theorem parse_any (s : ByteArray) (w : World) (hs : s.size ≤ 9000) (hg : Gl w) :
    Calls Tryd.prog 11 #[.string s] w (PaPost s w) := by
  obtain ⟨fs, hfs⟩ : ∃ fs, splitS s.data.toList = fs := ⟨_, rfl⟩
  obtain ⟨m, hm⟩ : ∃ m, splitE s.data.toList = m := ⟨_, rfl⟩
  have HS := Lib.hid (split_far s m hm)
  rw [hfs] at HS
  have HFs := Lib.hid hfs
  have HM := Lib.hid hm
  have HG := Lib.hid hg
  have HA : Hid (Ow w (w.alloc (.cells (ocells zeroC) 24))) := (Ow.refl _).alloc _
  have HX : Hid (Bx w.heap.size (ocells zeroC) 24 (w.alloc (.cells (ocells zeroC) 24))) := Bx.new _ _ _
  clear hfs hm hg
  by_cases hm0 : m = 0
  · subst hm0
    have HSh : Hid (∀ x ∈ fs, x.1.length ≤ 9000) := by rw [← HFs.out]; exact split_short _
    obtain ⟨N, hN⟩ : ∃ N, fs.length = N := ⟨_, rfl⟩
    rw [hN] at HS
    have HNl := Lib.hid hN
    clear hN
    have HFd := fld_row
    go_enter Tryd.func11, Tryd.ntmps11
    go_wp2_with fail
    (go_at_call 24; refine (HS.out _ hs (HG.out.below HA.out)).mono ?_; rintro e w1 ⟨fa, fc, rfl, hb1, hcap, hf1⟩)
    have HP1 : Hid (Ow w w1 ∧ Bx w.heap.size (ocells zeroC) 24 w1 ∧ (fs ≠ [] → ∃ G off, fa = some ⟨G, off, none⟩ ∧ w.heap.size < G ∧ FC G off fs w1)) :=
      ⟨HA.out.then hb1, HX.out.then hb1, fun hne => by obtain ⟨G, off, e1, e2, e3⟩ := hf1 hne; exact ⟨G, off, e1, by simp at e2; omega, e3⟩⟩
    clear hb1 hf1
    go_wp2_with fail
    (go_at_call 25; refine (table_any _).mono ?_; rintro e w2 ⟨g, rfl, hb2, hg2⟩)
    have HP : Hid (PR w g fs fa w2) := by
      obtain ⟨o1, o2, o3⟩ := HP1.out
      exact ⟨o1.then hb2, o2.then hb2, fun k k1 k2 => ⟨by have := (hg2 k k1 k2).1; have := o2.lt; omega, (hg2 k k1 k2).2⟩, fun hne => by obtain ⟨G, off, e1, e2, e3⟩ := o3 hne; exact ⟨G, off, e1, e2, e3.then hb2⟩⟩
    clear hb2 hg2 HP1
    go_wp2_with fail
    go_loopw [20] (fun ix wr => ∃ k : Nat, k ≤ 12 ∧ ix = .int .i64 k ∧ Hid (∀ j : Nat, 1 ≤ j → j < k → fits j fs = false) ∧ Hid (PR w g fs fa wr)) (fun ix _ => 12 - (intOf ix).toNat)
    case atStart => exact ⟨0, by omega, rfl, fun j h1 h2 => absurd h2 (Nat.not_lt_zero _), HP⟩
    case round =>
      obtain ⟨k, hk, rfl, HN, HR⟩ := hrel
      clear HP
      by_cases hlt : k < 12
      · by_cases hk0 : k = 0
        · subst hk0
          have HZ := idx_zero g
          go_wp2_with fail
          go_quiet (fail)
          go_wp2_with fail
          go_roundw
          case rel => exact ⟨1, by omega, by go_num, fun j h1 h2 => by omega, HR.out.then (((Ow.refl _).alloc _).drewN _)⟩
          case measure => simp [intOf]
        · obtain ⟨nm, q, L, HI, hL, hq, hnm⟩ := idx_row g k (by omega) (by omega)
          have hL3 : L ≤ 3 := by rw [hL]; exact Sc.kf_three _
          have hwL : IntKind.i64.wrap ((L : Int) + 1) = (L : Int) + 1 := IntWalk.i64_in _ (by omega)
          have hk0' : ((k : Int) == 0) = false := beq_eq_false_iff_ne.2 (by omega)
          by_cases hb : N = L + 1
          · subst hb
            have hne : fs ≠ [] := by intro e; have := HNl.out; rw [e] at this; simp at this
            obtain ⟨G, off, rfl, hGw, hF⟩ := HR.out.fs hne
            obtain ⟨x, hx⟩ : ∃ x, fs[0]? = some x := ⟨_, List.getElem?_eq_getElem (by have := HNl.out; omega)⟩
            obtain ⟨f0, f1⟩ := hF.fld 0 x hx
            simp only [Nat.zero_mul, Nat.add_zero] at f0 f1
            have hGl := hF.lt
            have HF := Lib.hid hF
            obtain ⟨xs, xq⟩ := x
            simp only at f0 f1
            obtain ⟨sx, hsx⟩ : ∃ sx : ByteArray, ⟨xs.toArray⟩ = sx := ⟨_, rfl⟩
            rw [hsx] at f0
            have HQ := Lib.hid hq
            have HXx := Lib.hid (And.intro hx (And.intro hsx (And.intro hnm hL)))
            clear hx hsx hnm hL hq hF hne
            have HKn : Hid (fits k fs = false → ∀ j : Nat, 1 ≤ j → j < k + 1 → fits j fs = false) := fun h j h1 h2 => by
              rcases Nat.lt_or_ge j k with h3 | h3
              · exact HN.out j h1 h3
              · obtain rfl : j = k := by omega
                exact h
            have HKh : Hid (fits k fs = ((xs, xq) == (kw k, false))) := by
              have h0 : fs.head? = some (xs, xq) := by rw [List.head?_eq_getElem?]; exact HXx.out.1
              rw [Hid]; unfold Sc.fits; rw [HNl.out, h0, ← HXx.out.2.2.2]; simp
            by_cases hw : sx = nm
            · subst hw
              cases xq with
              | true =>
                have HK : Hid (∀ j : Nat, 1 ≤ j → j < k + 1 → fits j fs = false) := HKn.out (by rw [HKh.out]; simp)
                go_wp2_with fail
                go_quiet (fail)
                go_wp2_with fail
                go_roundw
                case rel => exact ⟨k + 1, by omega, by go_num, HK.out, HR.out.then (((Ow.refl _).alloc _).drewN _)⟩
                case measure => simp [intOf]; omega
              | false =>
                have hxk : xs = kw k := by have := HXx.out.2.2.1; rw [← HXx.out.2.1] at this; simpa using this
                have HKo : Hid (kindOf fs = some k) := Sc.kind_some (by omega) (by omega) (by rw [HKh.out, hxk]; simp)
                obtain ⟨E, hE⟩ : ∃ E, readE (kf (k : Int)) fs.tail = E := ⟨_, rfl⟩
                obtain ⟨C, hC⟩ : ∃ C, readC (bareC0 k) (kf (k : Int)) fs.tail = C := ⟨_, rfl⟩
                have HP1 : Hid (parE s.data.toList = E ∧ parC s.data.toList = if E = 0 then C else zeroC) := by
                  have := par_some (l := s.data.toList) HM.out (by rw [HFs.out]; exact HKo.out)
                  rw [HFs.out, hE, hC] at this
                  exact this
                have hsl := fun W => sl_tail G off L fc W
                have hcut := HF.out.cut (fc := fc) (by have := HNl.out; omega)
                obtain ⟨o2, ho2⟩ : ∃ o2, (if fc = 1 then off else off + 2) = o2 := ⟨_, rfl⟩
                rw [ho2] at hcut
                simp only [ho2] at hsl
                clear ho2
                have HRd : Hid (∀ nq, Calls Tryd.prog 26 #[.agg #[.string sx, .slice q L L], .pointer (some ⟨wr.heap.size + 1, 0, none⟩), .slice (some ⟨G, o2, none⟩) L (fc - 1)] (((wr.alloc (.cells #[.string sx, .slice q L L] 56)).drewN nq).alloc (.cells (ocells (bareC0 k)) 24)).drew (RdP w (((wr.alloc (.cells #[.string sx, .slice q L L] 56)).drewN nq).alloc (.cells (ocells (bareC0 k)) 24)).drew (wr.heap.size + 1) E C)) := by
                  intro nq
                  have hsz := HR.out.ow.size
                  have hOw : Ow wr (((wr.alloc (.cells #[.string sx, .slice q L L] 56)).drewN nq).alloc (.cells (ocells (bareC0 k)) 24)).drew := ((((Ow.refl _).alloc _).drewN _).alloc _).drew
                  refine read_at w _ k (g k) G _ _ _ L sx q fs.tail (bareC0 k) C E hE hC (by omega) (by omega) HQ.out HXx.out.2.2.2 (by have := HNl.out; rw [List.length_tail]; omega) (fun x hx => HSh.out x (List.mem_of_mem_tail hx)) (by omega) ⟨Ow.then HR.out.ow hOw, ?_, fun h10 => ⟨?_, (HR.out.tab k (by omega) h10).2.then hOw⟩, ⟨by have := HF.out.lt; omega, hcut.then hOw⟩, fun _ _ _ _ h => h⟩ HG.out
                  · have := (Bx.new ((wr.alloc (.cells #[.string sx, .slice q L L] 56)).drewN nq) (ocells (bareC0 k)) 24).then ((Ow.refl _).drew)
                    simpa using this
                  · have := (HR.out.tab k (by omega) h10).2.lt
                    omega
                clear hcut
                have HRs : Hid (∀ nq, Bx w.heap.size (ocells zeroC) 24 (((wr.alloc (.cells #[.string sx, .slice q L L] 56)).drewN nq).alloc (.cells (ocells (bareC0 k)) 24)).drew) := fun nq => HR.out.res.then (((((Ow.refl _).alloc _).drewN _).alloc _).drew)
                have hwr : w.heap.size < wr.heap.size := HR.out.res.lt
                clear hE hC hxk hk0
                unfold ocells bareC0 at HRd
                simp only at HRd
                by_cases hE0 : E = 0
                · subst hE0
                  go_wp2_with fail
                  go_quiet (fail)
                  rename_i nq
                  go_wp2_with fail
                  go_region_with (go_at_call 26; refine (HRd.out nq).mono ?_; rintro e w3 ⟨rfl, hb3, hc3, ho3⟩)
                  simp only [Act.put, List.getElem_toArray, List.getElem_cons_succ, List.getElem_cons_zero, List.setIfInBounds_toArray, List.set_cons_succ, List.set_cons_zero]
                  have HR3 : Hid (Bx w.heap.size (ocells zeroC) 24 w3) := ho3 _ _ _ (by omega) (HRs.out nq)
                  have HO3 : Hid (Ow w w3) := hb3
                  have HB3 : Hid (Bx (wr.heap.size + 1) (ocells C) 24 w3) := hc3 (by first | trivial | rfl)
                  clear hb3 hc3 ho3
                  go_wp2_with (first
                    | (refine wpList_load_row rfl 24 _ rfl (wr.heap.size + 1) rfl 24 _ (0, 0) _ HB3.out Tryd.underlying24 rfl (by kernel_rfl) ?_)
                    | (refine wpList_store_rowOf rfl 24 (.tmp 2) (.tmp 54) rfl w.heap.size (by kernel_rfl) (by kernel_rfl) 24 _ HR3.out (by kernel_rfl) (by kernel_rfl) (by kernel_rfl) ?_))
                  refine oc_ret (c := C) (setRow_heap _ _ _ _ _ _ HR3.out) rfl rfl ?_
                  unfold PaPost
                  rw [HP1.out.1, HP1.out.2, if_pos (by first | trivial | rfl)]
                  exact ⟨rfl, HO3.out.row (Nat.le_refl _) _⟩
                · have hE1 : (E == 0) = false := beq_eq_false_iff_ne.2 hE0
                  have HE0 := Lib.hid hE0
                  clear hE0
                  go_wp2_with fail
                  go_quiet (fail)
                  rename_i nq
                  go_wp2_with fail
                  go_region_with (go_at_call 26; refine (HRd.out nq).mono ?_; rintro e w3 ⟨rfl, hb3, hc3, ho3⟩)
                  simp only [Act.put, List.getElem_toArray, List.getElem_cons_succ, List.getElem_cons_zero, List.setIfInBounds_toArray, List.set_cons_succ, List.set_cons_zero]
                  have HR3 : Hid (Bx w.heap.size (ocells zeroC) 24 w3) := ho3 _ _ _ (by omega) (HRs.out nq)
                  have HO3 : Hid (Ow w w3) := hb3
                  clear hb3 hc3 ho3
                  go_wp2_with (refine wpList_store_rowOf rfl 24 (.tmp 2) (.tmp 52) rfl w.heap.size (by kernel_rfl) (by kernel_rfl) 24 _ HR3.out (by kernel_rfl) (by kernel_rfl) (by kernel_rfl) ?_)
                  refine oc_ret (c := zeroC) (setRow_heap _ _ _ _ _ _ HR3.out) rfl rfl ?_
                  unfold PaPost
                  rw [HP1.out.1, HP1.out.2, if_neg HE0.out]
                  exact ⟨rfl, HO3.out.row (Nat.le_refl _) _⟩
            · have hw1 : (sx.toList == nm.toList) = false := beq_eq_false_iff_ne.2 (fun e => hw (by rw [ba_toList, ba_toList] at e; exact ba_ext e))
              have HK : Hid (∀ j : Nat, 1 ≤ j → j < k + 1 → fits j fs = false) := HKn.out (by
                rw [HKh.out, beq_eq_false_iff_ne]
                intro e
                simp only [Prod.mk.injEq] at e
                apply hw
                rw [← HXx.out.2.1, str_of HXx.out.2.2.1, e.1])
              clear hw
              go_wp2_with fail
              go_quiet (fail)
              go_wp2_with fail
              go_roundw
              case rel => exact ⟨k + 1, by omega, by go_num, HK.out, HR.out.then (((Ow.refl _).alloc _).drewN _)⟩
              case measure => simp [intOf]; omega
          · have hbi : ((N : Int) != (L : Int) + 1) = true := bne_iff_ne.2 (by omega)
            have HK : Hid (fits k fs = false) := by
              rw [Hid]; unfold Sc.fits; rw [HNl.out, ← hL, beq_eq_false_iff_ne.2 hb, Bool.false_and]
            have HLk := Lib.hid hL
            clear hb hk0 hL hnm hq
            go_wp2_with fail
            go_quiet (fail)
            go_wp2_with fail
            go_roundw
            case rel => exact ⟨k + 1, by omega, by go_num, fun j h1 h2 => by
              rcases Nat.lt_or_ge j k with h | h
              · exact HN.out j h1 h
              · obtain rfl : j = k := by omega
                exact HK.out, HR.out.then (((Ow.refl _).alloc _).drewN _)⟩
            case measure => simp [intOf]; omega
      · have hk12 : k = 12 := by omega
        subst hk12
        have HE := Lib.hid (par_none (l := s.data.toList) HM.out (by rw [HFs.out]; exact Sc.kind_none HN.out))
        clear hlt hk
        have HXr := Lib.hid HR.out.res
        go_wp2_with (refine wpList_store_rowOf rfl 24 (.tmp 2) (.tmp 56) rfl w.heap.size (by kernel_rfl) (by kernel_rfl) 24 _ HXr.out (by kernel_rfl) (by kernel_rfl) (by kernel_rfl) ?_)
        refine oc_ret (c := zeroC) (setRow_heap _ _ _ _ _ _ HXr.out) rfl rfl ?_
        unfold PaPost
        rw [HE.out.1, HE.out.2]
        exact ⟨rfl, HR.out.ow.row (Nat.le_refl _) _⟩
  · have HE := Lib.hid (par_bad (l := s.data.toList) (by rw [HM.out]; exact hm0))
    have hb0 : (m == 0) = false := beq_eq_false_iff_ne.2 hm0
    clear hm0
    go_enter Tryd.func11, Tryd.ntmps11
    go_wp2_with fail
    (go_at_call 24; refine (HS.out _ hs (HG.out.below HA.out)).mono ?_; rintro e w1 ⟨fa, fc, rfl, hb1, hcap, hf1⟩)
    have HX1 := Lib.hid (HX.out.then hb1)
    have HO1 := Lib.hid (HA.out.then hb1)
    clear hb1 hf1 hcap
    go_wp2_with (refine wpList_store_rowOf rfl 24 (.tmp 2) (.tmp 17) rfl w.heap.size (by kernel_rfl) (by kernel_rfl) 24 _ HX1.out (by kernel_rfl) (by kernel_rfl) (by kernel_rfl) ?_)
    refine oc_ret (c := zeroC) (setRow_heap _ _ _ _ _ _ HX1.out) rfl rfl ?_
    unfold PaPost
    rw [HE.out.1, HE.out.2, HM.out]
    exact ⟨rfl, HO1.out.row (Nat.le_refl _) _⟩
end Go.Proofs.YtaojogaakhidhaaDoor

/- Package words: the walk of unescape. -/
import Derived.Test.YtaojogaakhidhaaDoorWByte
import Derived.Test.YtaojogaakhidhaaDoorWUtil
import Derived.Test.YtaojogaakhidhaaDoorShelf
import Derived.Deep.QuietTactic
import Derived.BigQuiet
import Derived.Outline
namespace Go.Proofs.YtaojogaakhidhaaDoor
open Go.RowKit
open Wd (plainB letB decB unhexB)

/-- What unescape returns: the byte of an escape without its backslash, and its length. -/
def unE (l : List UInt8) : UInt8 × Nat := match decB (92 :: l) with
  | some (x, k) => (x, k - 1)
  | none => (0, 0)
theorem esc_block {w : World} (hg : Gl w) : ∃ tt fr, w.heap[4]? = some (.cells escCells tt fr) := by
  have hv := hg.esc
  simp only [World.var?, show Tryd.prog.globalNamed "shunter/words.escapes" = some 4 by kernel_rfl, Option.bind_some] at hv
  split at hv
  · rename_i cs tt fr e
    obtain rfl : cs = escCells := by simpa using hv
    exact ⟨_, _, e⟩
  · cases hv
theorem un_row (l : List UInt8) (n c : Nat) {d : UInt8} {r : List UInt8} (h : l = d :: r) (hd : d.toNat = n) (hc : (n, c) ∈ [(34, 34), (92, 92), (110, 10), (114, 13), (116, 9)]) : unE l = (UInt8.ofNat c, 1) := by
  subst h
  obtain rfl : d = UInt8.ofNat n := by rw [← hd]; simp
  simp only [List.mem_cons, Prod.mk.injEq, List.not_mem_nil, or_false] at hc
  rcases hc with ⟨rfl, rfl⟩ | ⟨rfl, rfl⟩ | ⟨rfl, rfl⟩ | ⟨rfl, rfl⟩ | ⟨rfl, rfl⟩ <;> rfl
def hexI (c : UInt8) : Int := match unhexB c with | some a => (a.toNat : Int) | none => -1
theorem idx_hex (c : UInt8) : Lib.indexByte [48, 49, 50, 51, 52, 53, 54, 55, 56, 57, 97, 98, 99, 100, 101, 102] ((c.toNat : Int).toNat.toUInt8) = hexI c := by
  have := Wd.all256 (p := fun c => Lib.indexByte [48, 49, 50, 51, 52, 53, 54, 55, 56, 57, 97, 98, 99, 100, 101, 102] ((c.toNat : Int).toNat.toUInt8) == hexI c) (by decide +kernel) c
  simpa using this
theorem indexHex (c : UInt8) (v : Int) (h : hexI c = v) (w : World) : Calls Tryd.prog 93 #[.string ⟨#[48, 49, 50, 51, 52, 53, 54, 55, 56, 57, 97, 98, 99, 100, 101, 102]⟩, .int .u8 (c.toNat : Int)] w fun e w' => e = .returned (.int .i64 v) ∧ w' = w := by
  have := Tryd.strings_IndexByte ⟨#[48, 49, 50, 51, 52, 53, 54, 55, 56, 57, 97, 98, 99, 100, 101, 102]⟩ (c.toNat : Int) w
  rwa [idx_hex, h] at this
theorem un_short (l : List UInt8) {d : UInt8} {r : List UInt8} (h : l = d :: r) (hd : d.toNat = 120) (hr : r.length < 2) : unE l = (0, 0) := by
  subst h
  obtain rfl : d = 120 := by apply UInt8.toNat_inj.1; rw [hd]; rfl
  match r, hr with
  | [], _ => rfl
  | [a], _ => simp [unE, decB, plainB]
theorem un_other (l : List UInt8) {n : Nat} {d : UInt8} {r : List UInt8} (h : l = d :: r) (hd : d.toNat = n) (hn : (0 < 5 → n ≠ 34) ∧ (1 < 5 → n ≠ 92) ∧ (2 < 5 → n ≠ 110) ∧ (3 < 5 → n ≠ 114) ∧ (4 < 5 → n ≠ 116)) (hx : n ≠ 120) : unE l = (0, 0) := by
  subst h hd
  have ne : ∀ m : UInt8, d.toNat ≠ m.toNat → (d == m) = false := fun m e => by rw [beq_eq_false_iff_ne]; exact fun f => e (by rw [f])
  have n0 := ne 34 (hn.1 (by omega))
  have n1 := ne 92 (hn.2.1 (by omega))
  have n2 := ne 110 (hn.2.2.1 (by omega))
  have n3 := ne 114 (hn.2.2.2.1 (by omega))
  have n4 := ne 116 (hn.2.2.2.2 (by omega))
  have n5 := ne 120 hx
  simp [unE, decB, plainB, n0, n1, n2, n3, n4, bne, n5]
theorem un_hex1 (l : List UInt8) {d e f : UInt8} {r t : List UInt8} (h : l = d :: r) (hd : d.toNat = 120) (hr : r = e :: f :: t) (he : unhexB e = none ∨ unhexB f = none) : unE l = (0, 0) := by
  subst h hr
  obtain rfl : d = 120 := by apply UInt8.toNat_inj.1; rw [hd]; rfl
  rcases he with he | he
  · simp [unE, decB, plainB, he]
  · cases h : unhexB e <;> simp [unE, decB, plainB, he, h]
theorem un_hex2 (l : List UInt8) {d e f a b : UInt8} {r t : List UInt8} (h : l = d :: r) (hd : d.toNat = 120) (hr : r = e :: f :: t) (he : unhexB e = some a) (hf : unhexB f = some b) :
    unE l = if plainB (a * 16 + b) || letB (a * 16 + b) != 0 then (0, 0) else (a * 16 + b, 3) := by
  subst h hr
  obtain rfl : d = 120 := by apply UInt8.toNat_inj.1; rw [hd]; rfl
  have e1 : decB (92 :: 120 :: e :: f :: t) = if plainB (a * 16 + b) || letB (a * 16 + b) != 0 then none else some (a * 16 + b, 4) := by
    simp [decB, he, hf, show plainB 92 = false from rfl]
  rw [unE, e1]
  cases plainB (a * 16 + b) || letB (a * 16 + b) != 0 <;> rfl
theorem or_all : (List.range 16).all (fun a => (List.range 16).all fun b => bits BinOp.or IntKind.i64 (((UInt8.ofNat a).toNat : Int) * 16) ((UInt8.ofNat b).toNat : Int) % 256 == ((UInt8.ofNat a * 16 + UInt8.ofNat b).toNat : Int)) = true := by decide +kernel
theorem or_hex (a b : UInt8) (ha : a.toNat < 16) (hb : b.toNat < 16) : bits BinOp.or IntKind.i64 ((a.toNat : Int) * 16) (b.toNat : Int) % 256 = ((a * 16 + b).toNat : Int) := by
  have h1 := List.all_eq_true.1 or_all a.toNat (List.mem_range.2 ha)
  have h2 := List.all_eq_true.1 h1 b.toNat (List.mem_range.2 hb)
  simpa using h2
def UnPost (s : ByteArray) (w : World) (e : Ending) (w' : World) : Prop := e = .returned (.tuple #[.int .u8 ((unE s.data.toList).1.toNat : Int), .int .i64 ((unE s.data.toList).2 : Nat)]) ∧ Below w.heap.size w w'

set_option maxRecDepth 100000 in
set_option maxHeartbeats 2000000 in
theorem unescape_any (s : ByteArray) (w : World) (hs : s.size ≤ 20000) (hg : Gl w) :
    Calls Tryd.prog 80 #[.string s] w (UnPost s w) := by
  by_cases hz : s.size = 0
  · have e0 := ba_empty hz
    have hp : unE s.data.toList = (0, 0) := by rw [ba_nil hz]; rfl
    have HP := Lib.hid hp
    clear hp
    go_enter Tryd.func80, Tryd.ntmps80
    go_wp2
    go_ret2
    unfold UnPost
    rw [HP.out]
    exact ⟨rfl, Below.refl _ _⟩
  · obtain ⟨tt, fr, hgb⟩ := esc_block hg
    have HG := Lib.hid hgb
    clear hgb
    have h0 : 0 < s.size := by omega
    have HGl := Lib.hid hg
    clear hg
    have e1 : (!s.toList.isEmpty) = true := by rw [ba_full h0]; rfl
    have e2 := ba_full h0
    obtain ⟨n, hn⟩ : ∃ n : Nat, s[0].toNat = n := ⟨_, rfl⟩
    have i0 : ∀ w, (Instr.index 132 (.agg escCells) (.int .i64 0)).run Tryd.prog w = .ok (.agg #[.int .u8 34, .int .u8 34]) w := fun _ => by kernel_rfl
    have i1 : ∀ w, (Instr.index 132 (.agg escCells) (.int .i64 1)).run Tryd.prog w = .ok (.agg #[.int .u8 92, .int .u8 92]) w := fun _ => by kernel_rfl
    have i2 : ∀ w, (Instr.index 132 (.agg escCells) (.int .i64 2)).run Tryd.prog w = .ok (.agg #[.int .u8 10, .int .u8 110]) w := fun _ => by kernel_rfl
    have i3 : ∀ w, (Instr.index 132 (.agg escCells) (.int .i64 3)).run Tryd.prog w = .ok (.agg #[.int .u8 13, .int .u8 114]) w := fun _ => by kernel_rfl
    have i4 : ∀ w, (Instr.index 132 (.agg escCells) (.int .i64 4)).run Tryd.prog w = .ok (.agg #[.int .u8 9, .int .u8 116]) w := fun _ => by kernel_rfl
    have HE : Hid (s[0].toNat = n) := hn
    have HS : Hid (s.data.toList = s[0] :: s.data.toList.drop 1) := ba_cons s h0
    go_enter Tryd.func80, Tryd.ntmps80
    go_wp2_with (refine wpList_load_row rfl 132 _ rfl 4 rfl tt _ fr _ HG.out Tryd.underlying132 rfl (by kernel_rfl) ?_)
    go_loopw [12] (fun i wr => ∃ k : Nat, k ≤ 5 ∧ i = .int .i64 k ∧ (0 < k → n ≠ 34) ∧ (1 < k → n ≠ 92) ∧ (2 < k → n ≠ 110) ∧ (3 < k → n ≠ 114) ∧ (4 < k → n ≠ 116) ∧ Below w.heap.size w wr) (fun i _ => 5 - (intOf i).toNat)
    case atStart => exact ⟨0, by omega, rfl, by omega, by omega, by omega, by omega, by omega, Below.refl _ _⟩
    case round =>
      obtain ⟨k, hk, rfl, n0, n1, n2, n3, n4, hb⟩ := hrel
      have HN : Hid ((0 < k → n ≠ 34) ∧ (1 < k → n ≠ 92) ∧ (2 < k → n ≠ 110) ∧ (3 < k → n ≠ 114) ∧ (4 < k → n ≠ 116)) := ⟨n0, n1, n2, n3, n4⟩
      have HB := Lib.hid hb
      clear n0 n1 n2 n3 n4 hb
      rcases (show k = 0 ∨ k = 1 ∨ k = 2 ∨ k = 3 ∨ k = 4 ∨ k = 5 by omega) with rfl | rfl | rfl | rfl | rfl | rfl
      · by_cases hc : n = 34
        · have hp : unE s.data.toList = (34, 1) := un_row _ 34 34 HS.out (by rw [HE.out]; exact hc) (by simp)
          have HP := Lib.hid hp
          subst hc
          clear hk hp
          go_wp2
          go_quiet (fail)
          go_wp2
          go_ret2
          unfold UnPost
          rw [HP.out]
          exact ⟨rfl, HB.out.trans (bdrewN ((Below.refl _ _).alloc HB.out.size _) _)⟩
        · have ec : ((34 : Int) == (n : Int)) = false := by rw [beq_eq_false_iff_ne]; omega
          have HC := Lib.hid hc
          clear hk hc
          go_wp2
          go_quiet (fail)
          go_wp2
          go_roundw
          case rel => exact ⟨1, by omega, by go_num, by have := HN.out; have := HC.out; omega, by have := HN.out; have := HC.out; omega, by have := HN.out; have := HC.out; omega, by have := HN.out; have := HC.out; omega, by have := HN.out; have := HC.out; omega, HB.out.trans (bdrewN ((Below.refl _ _).alloc HB.out.size _) _)⟩
          case measure => simp [intOf]
      · by_cases hc : n = 92
        · have hp : unE s.data.toList = (92, 1) := un_row _ 92 92 HS.out (by rw [HE.out]; exact hc) (by simp)
          have HP := Lib.hid hp
          subst hc
          clear hk hp
          go_wp2
          go_quiet (fail)
          go_wp2
          go_ret2
          unfold UnPost
          rw [HP.out]
          exact ⟨rfl, HB.out.trans (bdrewN ((Below.refl _ _).alloc HB.out.size _) _)⟩
        · have ec : ((92 : Int) == (n : Int)) = false := by rw [beq_eq_false_iff_ne]; omega
          have HC := Lib.hid hc
          clear hk hc
          go_wp2
          go_quiet (fail)
          go_wp2
          go_roundw
          case rel => exact ⟨2, by omega, by go_num, by have := HN.out; have := HC.out; omega, by have := HN.out; have := HC.out; omega, by have := HN.out; have := HC.out; omega, by have := HN.out; have := HC.out; omega, by have := HN.out; have := HC.out; omega, HB.out.trans (bdrewN ((Below.refl _ _).alloc HB.out.size _) _)⟩
          case measure => simp [intOf]
      · by_cases hc : n = 110
        · have hp : unE s.data.toList = (10, 1) := un_row _ 110 10 HS.out (by rw [HE.out]; exact hc) (by simp)
          have HP := Lib.hid hp
          subst hc
          clear hk hp
          go_wp2
          go_quiet (fail)
          go_wp2
          go_ret2
          unfold UnPost
          rw [HP.out]
          exact ⟨rfl, HB.out.trans (bdrewN ((Below.refl _ _).alloc HB.out.size _) _)⟩
        · have ec : ((110 : Int) == (n : Int)) = false := by rw [beq_eq_false_iff_ne]; omega
          have HC := Lib.hid hc
          clear hk hc
          go_wp2
          go_quiet (fail)
          go_wp2
          go_roundw
          case rel => exact ⟨3, by omega, by go_num, by have := HN.out; have := HC.out; omega, by have := HN.out; have := HC.out; omega, by have := HN.out; have := HC.out; omega, by have := HN.out; have := HC.out; omega, by have := HN.out; have := HC.out; omega, HB.out.trans (bdrewN ((Below.refl _ _).alloc HB.out.size _) _)⟩
          case measure => simp [intOf]
      · by_cases hc : n = 114
        · have hp : unE s.data.toList = (13, 1) := un_row _ 114 13 HS.out (by rw [HE.out]; exact hc) (by simp)
          have HP := Lib.hid hp
          subst hc
          clear hk hp
          go_wp2
          go_quiet (fail)
          go_wp2
          go_ret2
          unfold UnPost
          rw [HP.out]
          exact ⟨rfl, HB.out.trans (bdrewN ((Below.refl _ _).alloc HB.out.size _) _)⟩
        · have ec : ((114 : Int) == (n : Int)) = false := by rw [beq_eq_false_iff_ne]; omega
          have HC := Lib.hid hc
          clear hk hc
          go_wp2
          go_quiet (fail)
          go_wp2
          go_roundw
          case rel => exact ⟨4, by omega, by go_num, by have := HN.out; have := HC.out; omega, by have := HN.out; have := HC.out; omega, by have := HN.out; have := HC.out; omega, by have := HN.out; have := HC.out; omega, by have := HN.out; have := HC.out; omega, HB.out.trans (bdrewN ((Below.refl _ _).alloc HB.out.size _) _)⟩
          case measure => simp [intOf]
      · by_cases hc : n = 116
        · have hp : unE s.data.toList = (9, 1) := un_row _ 116 9 HS.out (by rw [HE.out]; exact hc) (by simp)
          have HP := Lib.hid hp
          subst hc
          clear hk hp
          go_wp2
          go_quiet (fail)
          go_wp2
          go_ret2
          unfold UnPost
          rw [HP.out]
          exact ⟨rfl, HB.out.trans (bdrewN ((Below.refl _ _).alloc HB.out.size _) _)⟩
        · have ec : ((116 : Int) == (n : Int)) = false := by rw [beq_eq_false_iff_ne]; omega
          have HC := Lib.hid hc
          clear hk hc
          go_wp2
          go_quiet (fail)
          go_wp2
          go_roundw
          case rel => exact ⟨5, by omega, by go_num, by have := HN.out; have := HC.out; omega, by have := HN.out; have := HC.out; omega, by have := HN.out; have := HC.out; omega, by have := HN.out; have := HC.out; omega, by have := HN.out; have := HC.out; omega, HB.out.trans (bdrewN ((Below.refl _ _).alloc HB.out.size _) _)⟩
          case measure => simp [intOf]
      · clear hk
        by_cases hx : n = 120
        · by_cases hz3 : 3 ≤ s.size
          · subst hx
            have l1 : (1 : Int) < (s.size : Int) := by omega
            have l2 : (2 : Int) < (s.size : Int) := by omega
            have m1 : 1 < s.size := by omega
            have m2 : 2 < s.size := by omega
            have HT : Hid (s.data.toList.drop 1 = s[1] :: s[2] :: s.data.toList.drop 3) := by rw [Hid, ba_drop s 1 m1, ba_drop s 2 m2]
            cases u1 : unhexB s[1] with
            | none =>
              have H1 : Hid (hexI s[1] = -1) := by simp [Hid, hexI, u1]
              obtain ⟨v2, hv2⟩ : ∃ v2, hexI s[2] = v2 := ⟨_, rfl⟩
              have H2 := Lib.hid hv2
              have U1 := Lib.hid u1
              clear u1 hv2
              go_wp2
              go_quiet ((go_at_call 93; first | exact Calls.quiet_of_same (indexHex _ _ H1.out _) | exact Calls.quiet_of_same (indexHex _ _ H2.out _)))
              go_wp2
              go_ret2
              unfold UnPost
              rw [un_hex1 _ HS.out HE.out HT.out (.inl U1.out)]
              exact ⟨rfl, bdrewN HB.out _⟩
            | some a =>
              cases u2 : unhexB s[2] with
              | none =>
                have H1 : Hid (hexI s[1] = (a.toNat : Int)) := by simp [Hid, hexI, u1]
                have H2 : Hid (hexI s[2] = -1) := by simp [Hid, hexI, u2]
                have U1 := Lib.hid u1
                have U2 := Lib.hid u2
                clear u1 u2
                go_wp2
                go_quiet ((go_at_call 93; first | exact Calls.quiet_of_same (indexHex _ _ H1.out _) | exact Calls.quiet_of_same (indexHex _ _ H2.out _)))
                go_wp2
                go_ret2
                unfold UnPost
                rw [un_hex1 _ HS.out HE.out HT.out (.inr U2.out)]
                exact ⟨rfl, bdrewN HB.out _⟩
              | some b =>
                have H1 : Hid (hexI s[1] = (a.toNat : Int)) := by simp [Hid, hexI, u1]
                have H2 : Hid (hexI s[2] = (b.toNat : Int)) := by simp [Hid, hexI, u2]
                have U1 := Lib.hid u1
                have U2 := Lib.hid u2
                have a1 : a.toNat < 16 := (Wd.unhex_inv _ _ u1).1
                have b1 : b.toNat < 16 := (Wd.unhex_inv _ _ u2).1
                clear u1 u2
                go_wp2
                go_quiet ((go_at_call 93; first | exact Calls.quiet_of_same (indexHex _ _ H1.out _) | exact Calls.quiet_of_same (indexHex _ _ H2.out _)))
                have HT2 := un_hex2 _ HS.out HE.out HT.out U1.out U2.out
                have HP := Lib.hid HT2
                clear HT2
                go_wp2_with fail
                rw [or_hex a b a1 b1]
                generalize hx : a * 16 + b = x at HP ⊢
                clear hx
                cases hp : plainB x with
                | true =>
                  have PL : Hid (plainB x = true) := hp
                  clear hp
                  have hpl : ∀ w, Calls Tryd.prog 81 #[.int .u8 (x.toNat : Int)] w fun e w' => e = .returned (.bool true) ∧ w = w' := fun w => by have := isPlain_any x w; rwa [PL.out] at this
                  have HQ := Lib.hid hpl
                  clear hpl
                  (go_at_call 81; refine (HQ.out _).mono ?_; rintro e w' ⟨rfl, rfl⟩)
                  go_wp2_with fail
                  go_ret2
                  unfold UnPost
                  rw [HP.out, PL.out]
                  exact ⟨rfl, bdrewN HB.out _⟩
                | false =>
                  have PL : Hid (plainB x = false) := hp
                  clear hp
                  have hpl : ∀ w, Calls Tryd.prog 81 #[.int .u8 (x.toNat : Int)] w fun e w' => e = .returned (.bool false) ∧ w = w' := fun w => by have := isPlain_any x w; rwa [PL.out] at this
                  have HQ := Lib.hid hpl
                  clear hpl
                  have HG2 : Hid (Gl (wr.drewN nq)) := (HGl.out.below HB.out).below (bdrewN (Below.refl _ _) _)
                  by_cases hl : letB x = 0
                  · have LL := Lib.hid hl
                    have hll : ∀ w, Gl w → Calls Tryd.prog 94 #[.int .u8 (x.toNat : Int)] w fun e w' => e = .returned (.int .u8 0) ∧ Below w.heap.size w w' := fun w h => by have := letterOf_any x w h; rwa [LL.out] at this
                    have HL := Lib.hid hll
                    clear hl hll
                    (go_at_call 81; refine (HQ.out _).mono ?_; rintro e w' ⟨rfl, rfl⟩)
                    go_wp2_with (go_at_call 94; refine (HL.out _ HG2.out).mono ?_; rintro e w2 ⟨rfl, hb2⟩)
                    go_ret2
                    unfold UnPost
                    rw [HP.out, PL.out, LL.out]
                    exact ⟨rfl, HB.out.trans ((bdrewN (Below.refl _ _) _).trans (hb2.mono HB.out.size))⟩
                  · have LL := Lib.hid hl
                    have hl2 : (((letB x).toNat : Int) != 0) = true := by
                      rw [bne_iff_ne]; intro e; apply LL.out; apply UInt8.toNat_inj.1; have : (letB x).toNat = 0 := by omega
                      rw [this]; rfl
                    clear hl
                    (go_at_call 81; refine (HQ.out _).mono ?_; rintro e w' ⟨rfl, rfl⟩)
                    go_wp2_with (go_at_call 94; refine (letterOf_any _ _ HG2.out).mono ?_; rintro e w2 ⟨rfl, hb2⟩)
                    go_ret2
                    unfold UnPost
                    rw [HP.out, PL.out, if_pos (by simpa using LL.out)]
                    exact ⟨rfl, HB.out.trans ((bdrewN (Below.refl _ _) _).trans (hb2.mono HB.out.size))⟩
          · subst hx
            go_wp2
            go_ret2
            unfold UnPost
            rw [un_short _ HS.out HE.out (by rw [List.length_drop, ba_len]; omega)]
            exact ⟨rfl, HB.out⟩
        · have ex : ((n : Int) != 120) = true := by rw [bne_iff_ne]; omega
          have HX := Lib.hid hx
          clear hx
          go_wp2
          go_ret2
          unfold UnPost
          rw [un_other _ HS.out HE.out HN.out HX.out]
          exact ⟨rfl, HB.out⟩
theorem unescape_is (s : ByteArray) (l : List UInt8) (hl : s.data.toList = l) (x : UInt8) (k : Nat) (h : unE l = (x, k)) (w : World) (hs : s.size ≤ 20000) (hg : Gl w) :
    Calls Tryd.prog 80 #[.string s] w fun e w' => e = .returned (.tuple #[.int .u8 (x.toNat : Int), .int .i64 (k : Int)]) ∧ Below w.heap.size w w' := by
  have := unescape_any s w hs hg
  unfold UnPost at this
  rwa [hl, h] at this
end Go.Proofs.YtaojogaakhidhaaDoor

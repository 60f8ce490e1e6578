/- Package config: Print. -/
import Derived.Test.YtabopillicdjaaaGreatDoorCfg2
import Derived.Test.YtabopillicdjaaaGreatDoorShelf3
import Derived.Test.YtabopillicdjaaaGreatDoorWByte
import Derived.Test.YtabopillicdjaaaGreatDoorWUtil
import Derived.Deep.RegionHeld3
import Derived.Deep.DrawnRows
import Derived.Deep.AppendLies
namespace Go.Proofs.YtabopillicdjaaaGreatDoor
open Go.RowKit
attribute [local go_sem ↓] Go.wp_at_zero Go.wp_at_succ

set_option maxHeartbeats 400000 in
theorem digits_small (n : Int) (w : World) (h0 : 0 ≤ n) (h1 : n < 100) :
    Calls Tryz.prog 16 #[.int .i64 n] w fun e w' => e = .returned (.string ⟨(Lib.decDigits n.toNat).toArray⟩) ∧ w = w' := by
  obtain ⟨m, rfl⟩ := Int.eq_ofNat_of_zero_le h0
  have hm : m < 100 := by omega
  go_enter Tryz.func16, Tryz.ntmps16
  go_wp2_with (go_at_call 41; refine (Tryz.strconv_FormatInt_10_small m hm _).mono ?_; rintro e w' ⟨rfl, rfl⟩)
  go_ret
  exact ⟨by simp, rfl⟩

theorem lim_at1 (b : Nat) (w : World) : Calls Tryz.prog 73 #[.pointer (some ⟨b, 0, none⟩)] w fun e w' => e = .returned (.pointer (some ⟨b, 1, none⟩)) ∧ w = w' := by
  go_enter Tryz.func73, Tryz.ntmps73
  go_wp2
  go_ret
  exact ⟨rfl, rfl⟩

theorem lim_at2 (b : Nat) (w : World) : Calls Tryz.prog 74 #[.pointer (some ⟨b, 0, none⟩)] w fun e w' => e = .returned (.pointer (some ⟨b, 0, none⟩)) ∧ w = w' := by
  go_enter Tryz.func74, Tryz.ntmps74
  go_wp2
  go_ret
  exact ⟨rfl, rfl⟩

theorem lim_at3 (b : Nat) (w : World) : Calls Tryz.prog 75 #[.pointer (some ⟨b, 0, none⟩)] w fun e w' => e = .returned (.pointer (some ⟨b, 2, none⟩)) ∧ w = w' := by
  go_enter Tryz.func75, Tryz.ntmps75
  go_wp2
  go_ret
  exact ⟨rfl, rfl⟩

theorem lim_at4 (b : Nat) (w : World) : Calls Tryz.prog 76 #[.pointer (some ⟨b, 0, none⟩)] w fun e w' => e = .returned (.pointer (some ⟨b, 3, none⟩)) ∧ w = w' := by
  go_enter Tryz.func76, Tryz.ntmps76
  go_wp2
  go_ret
  exact ⟨rfl, rfl⟩

theorem lim_at5 (b : Nat) (w : World) : Calls Tryz.prog 77 #[.pointer (some ⟨b, 0, none⟩)] w fun e w' => e = .returned (.pointer (some ⟨b, 4, none⟩)) ∧ w = w' := by
  go_enter Tryz.func77, Tryz.ntmps77
  go_wp2
  go_ret
  exact ⟨rfl, rfl⟩

theorem own_ne {w : World} {base : Nat} {e : TypeId} {size : Nat} {v : Value} {n : Nat} {xs : List Value} (h : w.ownsRow base e size v n xs) {g : Nat} (hg : w.heap.size ≤ g ∨ g < base) : v.ownBlock ≠ some g := by
  rcases h.2 with ⟨rfl, _⟩ | ⟨g', cap, cur, rfl, hb, hh, _⟩
  · simp [Value.ownBlock]
  · intro he
    have : g' = g := by simpa [Value.ownBlock] using he
    subst this
    rcases hg with hg | hg
    · rw [Array.getElem?_eq_none hg] at hh; cases hh
    · omega
theorem keep_app {W w2 : World} {row : Option Nat} (hg : W.grownBy w2 row) {b1 b2 o3 : Nat} {v1 v2 v3 : Option Value} (h1 : b1 < W.heap.size) (h2 : b2 < W.heap.size) (n1 : row ≠ some b1) (n2 : row ≠ some b2)
    (h : W.cell? ⟨b1, 0, none⟩ = v1 ∧ W.cell? ⟨b1, 3, none⟩ = v2 ∧ W.cell? ⟨b2, o3, none⟩ = v3) : w2.cell? ⟨b1, 0, none⟩ = v1 ∧ w2.cell? ⟨b1, 3, none⟩ = v2 ∧ w2.cell? ⟨b2, o3, none⟩ = v3 := by
  rw [hg.cell_far _ h1 (Ne.symm n1), hg.cell_far _ h1 (Ne.symm n1), hg.cell_far _ h2 (Ne.symm n2)]
  exact h
theorem own_ge {w : World} {base : Nat} {e : TypeId} {size : Nat} {v : Value} {n : Nat} {xs : List Value} (h : w.ownsRow base e size v n xs) {g : Nat} (hg : v.ownBlock = some g) : base ≤ g := by
  rcases h.2 with ⟨rfl, _⟩ | ⟨g', cap, cur, rfl, hb, hh, _⟩
  · simp [Value.ownBlock] at hg
  · have : g' = g := by simpa [Value.ownBlock] using hg
    omega
theorem two_new (w : World) (o1 o2 : Obj) : (((w.alloc o1).alloc o2).drew).heap[w.heap.size + 1]? = some o2 := by
  show ((w.alloc o1).alloc o2).heap[w.heap.size + 1]? = some o2
  have := heap_alloc_new (w.alloc o1) o2
  rwa [World.size_alloc] at this
def prStrs (C N S K Q : Int) : List ByteArray := [⟨#[99, 97, 114, 115]⟩, ⟨(Lib.decDigits N.toNat).toArray⟩, ⟨#[111, 102]⟩, ⟨(Lib.decDigits C.toNat).toArray⟩, ⟨#[110, 117, 114, 115, 101, 114, 121]⟩, ⟨(Lib.decDigits S.toNat).toArray⟩, ⟨#[114, 101, 103, 105, 115, 116, 101, 114, 115]⟩, ⟨(Lib.decDigits K.toNat).toArray⟩, ⟨#[112, 111, 112, 117, 108, 97, 114]⟩, ⟨(Lib.decDigits Q.toNat).toArray⟩]
/-- What stands in a round of Print's loop. -/
structure PR (w : World) (L : Nat) (cs : Array Value) (w' : World) : Prop where
  box : ∀ i u, cs[i]? = some u → w'.cell? ⟨w.heap.size, i, none⟩ = some u
  lim : ∀ i u, limCells[i]? = some u → w'.cell? ⟨L, i, none⟩ = some u
  old : Below w.heap.size w w'
  lt : w.heap.size < L
  le : L + 1 ≤ w'.heap.size
theorem PR.below {w : World} {L : Nat} {cs : Array Value} {W w1 : World} (h : PR w L cs W) (hb : Below (L + 1) W w1) : PR w L cs w1 :=
  ⟨fun i u hu => (hb.cell (p := ⟨w.heap.size, i, none⟩) (by have := h.lt; simp; omega)).trans (h.box i u hu), fun i u hu => (hb.cell (p := ⟨L, i, none⟩) (by simp)).trans (h.lim i u hu),
    h.old.trans (hb.mono (by have := h.lt; omega)), h.lt, Nat.le_trans h.le hb.size⟩
theorem dec_len : ∀ m : Nat, m < 100 → (Lib.decDigits m).length ≤ 2 := by decide +kernel
theorem dec_len' {n : Int} (h0 : 0 ≤ n) (h1 : n < 100) : (Lib.decDigits n.toNat).length ≤ 2 := dec_len _ (by omega)
theorem join10 (C N S K Q : Int) (g cap : Nat) (w : World) (hcells : ∀ (j : Nat) x, (prStrs C N S K Q)[j]? = some x → w.cell? ⟨g, 0 + j, none⟩ = some (.string x)) (hg : g < w.heap.size) (hcap : (prStrs C N S K Q).length ≤ cap)
    (h1 : 7 ≤ N) (h2 : N ≤ 24) (h3 : 8 ≤ C) (h4 : C ≤ 64) (h5 : 4 ≤ S) (h6 : S ≤ 64) (h7 : 1 ≤ K) (h8 : K ≤ 8) (h9 : 2 ≤ Q) (h10 : Q ≤ 16) :
    Calls Tryz.prog 25 #[.slice (some ⟨g, 0, none⟩) 10 cap, .string ⟨#[32]⟩] w fun e w' => e = .returned (.string ⟨(Lib.join ((prStrs C N S K Q).map (·.data.toList)) [32]).toArray⟩) ∧ Below w.heap.size w w' := by
  have a1 := dec_len' (n := N) (by omega) (by omega)
  have a2 := dec_len' (n := C) (by omega) (by omega)
  have a3 := dec_len' (n := S) (by omega) (by omega)
  have a4 := dec_len' (n := K) (by omega) (by omega)
  have a5 := dec_len' (n := Q) (by omega) (by omega)
  exact Tryz.strings_Join g 0 cap (prStrs C N S K Q) ⟨#[32]⟩ w hcells hg (by simp [prStrs]) hcap (by simp [prStrs, Lib.join]; omega)
set_option maxRecDepth 100000 in
set_option maxHeartbeats 8000000 in
theorem print_ok (C N S K Q : Int) (w : World) (h : okC C N S K Q = true) :
    Calls Tryz.prog 18 #[.agg #[.int .i64 C, .int .i64 N, .int .i64 S, .int .i64 K, .int .i64 Q]] w fun e w' => e = .returned (.tuple #[.string ⟨(Lib.join ((prStrs C N S K Q).map (·.data.toList)) [32]).toArray⟩, .int .i64 0]) ∧ Below w.heap.size w w' := by
  obtain ⟨h1, h2, h3, h4, h5, h6, h7, h8, h9, h10⟩ := okC_bounds h
  have H := Lib.hid h
  clear h
  obtain ⟨i0, hi0, hz0, hz1, hz2⟩ := info_parts Tryz.infoStr
  go_enter Tryz.func18, Tryz.ntmps18
  go_wp2_with (first | (go_at_call 47; refine (check_ok _ _ _ _ _ _ H.out).mono ?_; rintro e w1 ⟨rfl, hb⟩; obtain ⟨hc, hf⟩ := bcell hb; have hz := hb.size; simp only [World.size_alloc] at hz) | (go_at_call 48; refine (limits_any _).mono ?_; rintro e w' ⟨rfl, rfl⟩))
  have HPR : Hid (PR w w1.heap.size #[.int .i64 C, .int .i64 N, .int .i64 S, .int .i64 K, .int .i64 Q] (w1.alloc (.cells limCells 96))) := by
    have hb1 : Below w.heap.size w w1 := (by repeat (first | exact Old.refl _ | (refine Old.then ?_ (by assumption)) | apply Old.drewN | apply Old.drew | apply Old.alloc))
    have hx : BoxS w.heap.size #[.int .i64 C, .int .i64 N, .int .i64 S, .int .i64 K, .int .i64 Q] (w1.alloc (.cells limCells 96)) := ((BoxS.new w #[.int .i64 C, .int .i64 N, .int .i64 S, .int .i64 K, .int .i64 Q] 45).then hb).alloc _
    exact ⟨hx.2, (BoxS.new w1 limCells 96).2, hb1.alloc hb1.size _, by omega, by simp⟩
  go_loopw [5, 15] (fun v i wr => ∃ k : Nat, k ≤ 5 ∧ i = .int .i64 k ∧ wr.ownsRow (w1.heap.size + 1) 9 1 v (2 * k) (((prStrs C N S K Q).take (2 * k)).map Value.string) ∧ PR w w1.heap.size #[.int .i64 C, .int .i64 N, .int .i64 S, .int .i64 K, .int .i64 Q] wr) (fun _ i _ => 5 - (intOf i).toNat)
  case atStart => exact ⟨0, by omega, rfl, World.ownsRow_nil _ _ _ _, HPR.out⟩
  case round =>
    obtain ⟨k, hk, rfl, hown, hpr⟩ := hrel
    clear hb hc hf hz HPR
    by_cases h5' : k = 5
    · subst h5'
      obtain ⟨g, cap, hv, hcap, hlt, hcells⟩ := own_strs (L := prStrs C N S K Q) hown (by simp [prStrs])
      subst hv
      have hjoin := join10 C N S K Q g cap wr hcells hlt hcap h1 h2 h3 h4 h5 h6 h7 h8 h9 h10
      have HP := Lib.hid hpr
      have HJ := Lib.hid hjoin
      clear hown hcells hpr hjoin
      go_wp2_with (go_at_call 25; refine HJ.out.mono ?_; rintro e w2 ⟨rfl, hb2⟩)
      go_ret2
      exact ⟨rfl, HP.out.old.trans (hb2.mono HP.out.old.size)⟩
    · rcases (show k = 0 ∨ k = 1 ∨ k = 2 ∨ k = 3 ∨ k = 4 by omega) with rfl | rfl | rfl | rfl | rfl
      · have l0 : wr.cell? ⟨w1.heap.size, 0, none⟩ = some (.string ⟨#[99, 97, 114, 115]⟩) := hpr.lim 0 _ rfl
        have l1 : wr.cell? ⟨w1.heap.size, 1, none⟩ = some (.int .i64 7) := hpr.lim 1 _ rfl
        have l2 : wr.cell? ⟨w1.heap.size, 2, none⟩ = some (.int .i64 24) := hpr.lim 2 _ rfl
        have l3 : wr.cell? ⟨w1.heap.size, 3, none⟩ = some (.func (.func 73) #[] #[]) := hpr.lim 3 _ rfl
        have c1 : wr.cell? ⟨w.heap.size, 1, none⟩ = some (.int .i64 N) := hpr.box 1 _ rfl
        have hlt : w.heap.size < wr.heap.size := by have := hpr.lt; have := hpr.le; omega
        have hsz : w1.heap.size + 1 ≤ wr.heap.size := hpr.le
        have ag : u5.ownBlock ≠ some wr.heap.size := own_ne hown (.inl (Nat.le_refl _))
        have ac : u5.ownBlock ≠ some w.heap.size := own_ne hown (.inr (by have := hpr.lt; omega))
        have HP := Lib.hid hpr
        have HO := Lib.hid hown
        clear hpr hown hk h5'
        have c1a : ∀ o, (wr.alloc o).cell? ⟨w.heap.size, 1, none⟩ = some (.int .i64 N) := fun o => (World.cell?_alloc_lt wr o _ (by simpa using hlt)).trans c1
        go_wp2_with fail
        go_region_held3 (fun w' => w'.cell? ⟨wr.heap.size, 0, none⟩ = some (.string ⟨#[99, 97, 114, 115]⟩) ∧ w'.cell? ⟨wr.heap.size, 3, none⟩ = some (.func (.func 73) #[] #[]) ∧ w'.cell? ⟨w.heap.size, 1, none⟩ = some (.int .i64 N))
          (first
            | go_keep
            | exact keep_app hgrow (by simp; omega) (by simp; omega) ag ac (by assumption))
          (first
            | (go_at_call 73; refine (lim_at1 _ _).mono ?_; rintro e w' ⟨rfl, rfl⟩)
            | (go_at_call 16; refine (digits_small _ _ (by omega) (by omega)).mono ?_; rintro e w' ⟨rfl, rfl⟩)
            | (refine step_append_lies _ (by rfl) _ _ _ (by rfl) (w1.heap.size + 1) 9 i0 _ 1 16 Tryz.underlying56 hi0 hz0 hz1 hz2 rfl (by omega) u5 0 (((prStrs C N S K Q).take 0).map Value.string) (by rfl) (((HO.out.alloc _).alloc _).drew)
                ⟨wr.heap.size + 1, 0, none⟩ 2 2 [.string ⟨#[99, 97, 114, 115]⟩, .string ⟨(Lib.decDigits N.toNat).toArray⟩] (by rfl) (by rfl) (World.news_of_block (cs := #[.string ⟨#[99, 97, 114, 115]⟩, .string ⟨(Lib.decDigits N.toNat).toArray⟩]) (t := 9) (fr := (0, 0)) (two_new _ _ _)) (by simp [Value.oneCell'])
                (by omega) (by unfold maxLen; omega) (by omega) (by simp; omega) (wr.heap.size + 2) (by simp) ?_; intro gg cap w2 hown2 hgrow hat hlt2))
        go_wp2
        go_roundw
        case rel => exact ⟨1, by omega, by go_num, by have := hown2; simpa [prStrs] using this, HP.out.below ((((Below.refl _ wr).alloc hsz _).alloc (by simp; omega) _).drew.grown hgrow (by simp; omega) (fun g hg => own_ge HO.out hg))⟩
        case measure => simp [intOf]
      · have l0 : wr.cell? ⟨w1.heap.size, 4, none⟩ = some (.string ⟨#[111, 102]⟩) := hpr.lim 4 _ rfl
        have l1 : wr.cell? ⟨w1.heap.size, 5, none⟩ = some (.int .i64 8) := hpr.lim 5 _ rfl
        have l2 : wr.cell? ⟨w1.heap.size, 6, none⟩ = some (.int .i64 64) := hpr.lim 6 _ rfl
        have l3 : wr.cell? ⟨w1.heap.size, 7, none⟩ = some (.func (.func 74) #[] #[]) := hpr.lim 7 _ rfl
        have c1 : wr.cell? ⟨w.heap.size, 0, none⟩ = some (.int .i64 C) := hpr.box 0 _ rfl
        have hlt : w.heap.size < wr.heap.size := by have := hpr.lt; have := hpr.le; omega
        have hsz : w1.heap.size + 1 ≤ wr.heap.size := hpr.le
        have ag : u5.ownBlock ≠ some wr.heap.size := own_ne hown (.inl (Nat.le_refl _))
        have ac : u5.ownBlock ≠ some w.heap.size := own_ne hown (.inr (by have := hpr.lt; omega))
        have HP := Lib.hid hpr
        have HO := Lib.hid hown
        clear hpr hown hk h5'
        have c1a : ∀ o, (wr.alloc o).cell? ⟨w.heap.size, 0, none⟩ = some (.int .i64 C) := fun o => (World.cell?_alloc_lt wr o _ (by simpa using hlt)).trans c1
        go_wp2_with fail
        go_region_held3 (fun w' => w'.cell? ⟨wr.heap.size, 0, none⟩ = some (.string ⟨#[111, 102]⟩) ∧ w'.cell? ⟨wr.heap.size, 3, none⟩ = some (.func (.func 74) #[] #[]) ∧ w'.cell? ⟨w.heap.size, 0, none⟩ = some (.int .i64 C))
          (first
            | go_keep
            | exact keep_app hgrow (by simp; omega) (by simp; omega) ag ac (by assumption))
          (first
            | (go_at_call 74; refine (lim_at2 _ _).mono ?_; rintro e w' ⟨rfl, rfl⟩)
            | (go_at_call 16; refine (digits_small _ _ (by omega) (by omega)).mono ?_; rintro e w' ⟨rfl, rfl⟩)
            | (refine step_append_lies _ (by rfl) _ _ _ (by rfl) (w1.heap.size + 1) 9 i0 _ 1 16 Tryz.underlying56 hi0 hz0 hz1 hz2 rfl (by omega) u5 2 (((prStrs C N S K Q).take 2).map Value.string) (by rfl) (((HO.out.alloc _).alloc _).drew)
                ⟨wr.heap.size + 1, 0, none⟩ 2 2 [.string ⟨#[111, 102]⟩, .string ⟨(Lib.decDigits C.toNat).toArray⟩] (by rfl) (by rfl) (World.news_of_block (cs := #[.string ⟨#[111, 102]⟩, .string ⟨(Lib.decDigits C.toNat).toArray⟩]) (t := 9) (fr := (0, 0)) (two_new _ _ _)) (by simp [Value.oneCell'])
                (by omega) (by unfold maxLen; omega) (by omega) (by simp; omega) (wr.heap.size + 2) (by simp) ?_; intro gg cap w2 hown2 hgrow hat hlt2))
        go_wp2
        go_roundw
        case rel => exact ⟨2, by omega, by go_num, by have := hown2; simpa [prStrs] using this, HP.out.below ((((Below.refl _ wr).alloc hsz _).alloc (by simp; omega) _).drew.grown hgrow (by simp; omega) (fun g hg => own_ge HO.out hg))⟩
        case measure => simp [intOf]
      · have l0 : wr.cell? ⟨w1.heap.size, 8, none⟩ = some (.string ⟨#[110, 117, 114, 115, 101, 114, 121]⟩) := hpr.lim 8 _ rfl
        have l1 : wr.cell? ⟨w1.heap.size, 9, none⟩ = some (.int .i64 4) := hpr.lim 9 _ rfl
        have l2 : wr.cell? ⟨w1.heap.size, 10, none⟩ = some (.int .i64 64) := hpr.lim 10 _ rfl
        have l3 : wr.cell? ⟨w1.heap.size, 11, none⟩ = some (.func (.func 75) #[] #[]) := hpr.lim 11 _ rfl
        have c1 : wr.cell? ⟨w.heap.size, 2, none⟩ = some (.int .i64 S) := hpr.box 2 _ rfl
        have hlt : w.heap.size < wr.heap.size := by have := hpr.lt; have := hpr.le; omega
        have hsz : w1.heap.size + 1 ≤ wr.heap.size := hpr.le
        have ag : u5.ownBlock ≠ some wr.heap.size := own_ne hown (.inl (Nat.le_refl _))
        have ac : u5.ownBlock ≠ some w.heap.size := own_ne hown (.inr (by have := hpr.lt; omega))
        have HP := Lib.hid hpr
        have HO := Lib.hid hown
        clear hpr hown hk h5'
        have c1a : ∀ o, (wr.alloc o).cell? ⟨w.heap.size, 2, none⟩ = some (.int .i64 S) := fun o => (World.cell?_alloc_lt wr o _ (by simpa using hlt)).trans c1
        go_wp2_with fail
        go_region_held3 (fun w' => w'.cell? ⟨wr.heap.size, 0, none⟩ = some (.string ⟨#[110, 117, 114, 115, 101, 114, 121]⟩) ∧ w'.cell? ⟨wr.heap.size, 3, none⟩ = some (.func (.func 75) #[] #[]) ∧ w'.cell? ⟨w.heap.size, 2, none⟩ = some (.int .i64 S))
          (first
            | go_keep
            | exact keep_app hgrow (by simp; omega) (by simp; omega) ag ac (by assumption))
          (first
            | (go_at_call 75; refine (lim_at3 _ _).mono ?_; rintro e w' ⟨rfl, rfl⟩)
            | (go_at_call 16; refine (digits_small _ _ (by omega) (by omega)).mono ?_; rintro e w' ⟨rfl, rfl⟩)
            | (refine step_append_lies _ (by rfl) _ _ _ (by rfl) (w1.heap.size + 1) 9 i0 _ 1 16 Tryz.underlying56 hi0 hz0 hz1 hz2 rfl (by omega) u5 4 (((prStrs C N S K Q).take 4).map Value.string) (by rfl) (((HO.out.alloc _).alloc _).drew)
                ⟨wr.heap.size + 1, 0, none⟩ 2 2 [.string ⟨#[110, 117, 114, 115, 101, 114, 121]⟩, .string ⟨(Lib.decDigits S.toNat).toArray⟩] (by rfl) (by rfl) (World.news_of_block (cs := #[.string ⟨#[110, 117, 114, 115, 101, 114, 121]⟩, .string ⟨(Lib.decDigits S.toNat).toArray⟩]) (t := 9) (fr := (0, 0)) (two_new _ _ _)) (by simp [Value.oneCell'])
                (by omega) (by unfold maxLen; omega) (by omega) (by simp; omega) (wr.heap.size + 2) (by simp) ?_; intro gg cap w2 hown2 hgrow hat hlt2))
        go_wp2
        go_roundw
        case rel => exact ⟨3, by omega, by go_num, by have := hown2; simpa [prStrs] using this, HP.out.below ((((Below.refl _ wr).alloc hsz _).alloc (by simp; omega) _).drew.grown hgrow (by simp; omega) (fun g hg => own_ge HO.out hg))⟩
        case measure => simp [intOf]
      · have l0 : wr.cell? ⟨w1.heap.size, 12, none⟩ = some (.string ⟨#[114, 101, 103, 105, 115, 116, 101, 114, 115]⟩) := hpr.lim 12 _ rfl
        have l1 : wr.cell? ⟨w1.heap.size, 13, none⟩ = some (.int .i64 1) := hpr.lim 13 _ rfl
        have l2 : wr.cell? ⟨w1.heap.size, 14, none⟩ = some (.int .i64 8) := hpr.lim 14 _ rfl
        have l3 : wr.cell? ⟨w1.heap.size, 15, none⟩ = some (.func (.func 76) #[] #[]) := hpr.lim 15 _ rfl
        have c1 : wr.cell? ⟨w.heap.size, 3, none⟩ = some (.int .i64 K) := hpr.box 3 _ rfl
        have hlt : w.heap.size < wr.heap.size := by have := hpr.lt; have := hpr.le; omega
        have hsz : w1.heap.size + 1 ≤ wr.heap.size := hpr.le
        have ag : u5.ownBlock ≠ some wr.heap.size := own_ne hown (.inl (Nat.le_refl _))
        have ac : u5.ownBlock ≠ some w.heap.size := own_ne hown (.inr (by have := hpr.lt; omega))
        have HP := Lib.hid hpr
        have HO := Lib.hid hown
        clear hpr hown hk h5'
        have c1a : ∀ o, (wr.alloc o).cell? ⟨w.heap.size, 3, none⟩ = some (.int .i64 K) := fun o => (World.cell?_alloc_lt wr o _ (by simpa using hlt)).trans c1
        go_wp2_with fail
        go_region_held3 (fun w' => w'.cell? ⟨wr.heap.size, 0, none⟩ = some (.string ⟨#[114, 101, 103, 105, 115, 116, 101, 114, 115]⟩) ∧ w'.cell? ⟨wr.heap.size, 3, none⟩ = some (.func (.func 76) #[] #[]) ∧ w'.cell? ⟨w.heap.size, 3, none⟩ = some (.int .i64 K))
          (first
            | go_keep
            | exact keep_app hgrow (by simp; omega) (by simp; omega) ag ac (by assumption))
          (first
            | (go_at_call 76; refine (lim_at4 _ _).mono ?_; rintro e w' ⟨rfl, rfl⟩)
            | (go_at_call 16; refine (digits_small _ _ (by omega) (by omega)).mono ?_; rintro e w' ⟨rfl, rfl⟩)
            | (refine step_append_lies _ (by rfl) _ _ _ (by rfl) (w1.heap.size + 1) 9 i0 _ 1 16 Tryz.underlying56 hi0 hz0 hz1 hz2 rfl (by omega) u5 6 (((prStrs C N S K Q).take 6).map Value.string) (by rfl) (((HO.out.alloc _).alloc _).drew)
                ⟨wr.heap.size + 1, 0, none⟩ 2 2 [.string ⟨#[114, 101, 103, 105, 115, 116, 101, 114, 115]⟩, .string ⟨(Lib.decDigits K.toNat).toArray⟩] (by rfl) (by rfl) (World.news_of_block (cs := #[.string ⟨#[114, 101, 103, 105, 115, 116, 101, 114, 115]⟩, .string ⟨(Lib.decDigits K.toNat).toArray⟩]) (t := 9) (fr := (0, 0)) (two_new _ _ _)) (by simp [Value.oneCell'])
                (by omega) (by unfold maxLen; omega) (by omega) (by simp; omega) (wr.heap.size + 2) (by simp) ?_; intro gg cap w2 hown2 hgrow hat hlt2))
        go_wp2
        go_roundw
        case rel => exact ⟨4, by omega, by go_num, by have := hown2; simpa [prStrs] using this, HP.out.below ((((Below.refl _ wr).alloc hsz _).alloc (by simp; omega) _).drew.grown hgrow (by simp; omega) (fun g hg => own_ge HO.out hg))⟩
        case measure => simp [intOf]
      · have l0 : wr.cell? ⟨w1.heap.size, 16, none⟩ = some (.string ⟨#[112, 111, 112, 117, 108, 97, 114]⟩) := hpr.lim 16 _ rfl
        have l1 : wr.cell? ⟨w1.heap.size, 17, none⟩ = some (.int .i64 2) := hpr.lim 17 _ rfl
        have l2 : wr.cell? ⟨w1.heap.size, 18, none⟩ = some (.int .i64 16) := hpr.lim 18 _ rfl
        have l3 : wr.cell? ⟨w1.heap.size, 19, none⟩ = some (.func (.func 77) #[] #[]) := hpr.lim 19 _ rfl
        have c1 : wr.cell? ⟨w.heap.size, 4, none⟩ = some (.int .i64 Q) := hpr.box 4 _ rfl
        have hlt : w.heap.size < wr.heap.size := by have := hpr.lt; have := hpr.le; omega
        have hsz : w1.heap.size + 1 ≤ wr.heap.size := hpr.le
        have ag : u5.ownBlock ≠ some wr.heap.size := own_ne hown (.inl (Nat.le_refl _))
        have ac : u5.ownBlock ≠ some w.heap.size := own_ne hown (.inr (by have := hpr.lt; omega))
        have HP := Lib.hid hpr
        have HO := Lib.hid hown
        clear hpr hown hk h5'
        have c1a : ∀ o, (wr.alloc o).cell? ⟨w.heap.size, 4, none⟩ = some (.int .i64 Q) := fun o => (World.cell?_alloc_lt wr o _ (by simpa using hlt)).trans c1
        go_wp2_with fail
        go_region_held3 (fun w' => w'.cell? ⟨wr.heap.size, 0, none⟩ = some (.string ⟨#[112, 111, 112, 117, 108, 97, 114]⟩) ∧ w'.cell? ⟨wr.heap.size, 3, none⟩ = some (.func (.func 77) #[] #[]) ∧ w'.cell? ⟨w.heap.size, 4, none⟩ = some (.int .i64 Q))
          (first
            | go_keep
            | exact keep_app hgrow (by simp; omega) (by simp; omega) ag ac (by assumption))
          (first
            | (go_at_call 77; refine (lim_at5 _ _).mono ?_; rintro e w' ⟨rfl, rfl⟩)
            | (go_at_call 16; refine (digits_small _ _ (by omega) (by omega)).mono ?_; rintro e w' ⟨rfl, rfl⟩)
            | (refine step_append_lies _ (by rfl) _ _ _ (by rfl) (w1.heap.size + 1) 9 i0 _ 1 16 Tryz.underlying56 hi0 hz0 hz1 hz2 rfl (by omega) u5 8 (((prStrs C N S K Q).take 8).map Value.string) (by rfl) (((HO.out.alloc _).alloc _).drew)
                ⟨wr.heap.size + 1, 0, none⟩ 2 2 [.string ⟨#[112, 111, 112, 117, 108, 97, 114]⟩, .string ⟨(Lib.decDigits Q.toNat).toArray⟩] (by rfl) (by rfl) (World.news_of_block (cs := #[.string ⟨#[112, 111, 112, 117, 108, 97, 114]⟩, .string ⟨(Lib.decDigits Q.toNat).toArray⟩]) (t := 9) (fr := (0, 0)) (two_new _ _ _)) (by simp [Value.oneCell'])
                (by omega) (by unfold maxLen; omega) (by omega) (by simp; omega) (wr.heap.size + 2) (by simp) ?_; intro gg cap w2 hown2 hgrow hat hlt2))
        go_wp2
        go_roundw
        case rel => exact ⟨5, by omega, by go_num, by have := hown2; simpa [prStrs] using this, HP.out.below ((((Below.refl _ wr).alloc hsz _).alloc (by simp; omega) _).drew.grown hgrow (by simp; omega) (fun g hg => own_ge HO.out hg))⟩
        case measure => simp [intOf]

end Go.Proofs.YtabopillicdjaaaGreatDoor

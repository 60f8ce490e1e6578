/- internal/strconv.formatBits at base 16. -/
import Derived.Test.YtaojogaakhidhaaDoorOpBx
import Derived.Test.YtaojogaakhidhaaDoorOpPl
import Derived.IntWalk
import Derived.WalkSmall
namespace Go.Proofs.YtaojogaakhidhaaDoor
open Go.RowKit
open Sc (hexD hexL)

/-- The one entry of math/bits' table that base 16 reads. -/
def Db (w : World) : Prop := w.cell? ⟨6, 15, none⟩ = some (.int .u8 4)
theorem Db.below {w w' : World} (h : Db w) (hb : Below w.heap.size w w') : Db w' := (hb.cell (p := ⟨6, 15, none⟩) (lt_of_cell h)).trans h
def digT : ByteArray := ⟨#[48, 49, 50, 51, 52, 53, 54, 55, 56, 57, 97, 98, 99, 100, 101, 102, 103, 104, 105, 106, 107, 108, 109, 110, 111, 112, 113, 114, 115, 116, 117, 118, 119, 120, 121, 122]⟩
set_option maxHeartbeats 1000000 in
theorem tz16 (w : World) (hd : Db w) : Calls Tryd.prog 67 #[.int .u64 16] w fun e w' => e = .returned (.int .i64 4) ∧ w = w' := by
  have h := hd
  unfold Db at h
  have f1 : IntKind.u64.wrap (-16) = 18446744073709551600 := by decide
  have f2 : bits BinOp.and IntKind.u64 16 18446744073709551600 = 16 := by
    have := bits_and_u64_nat 16 18446744073709551600 (by decide) (by decide)
    exact this.trans (by decide)
  have f3 : IntKind.u64.wrap (16 * 285870213051353865) = 4573923408821661840 := by decide
  have f4 : IntKind.u64.wrap 4573923408821661840 = 4573923408821661840 := by decide
  go_enter Tryd.func67, Tryd.ntmps67
  go_wp2
  go_ret
  exact ⟨rfl, rfl⟩
/-- What the loop has written. -/
structure FB (b : Nat) (x k : Nat) (S : List UInt8) (w W : World) : Prop where
  ow : Ow w W
  bb : w.heap.size ≤ b
  len : S.length = k
  cs : ∃ cs : Array Value, Bx b cs 108 W ∧ cs.size = 65 ∧ (∀ j : Nat, j < 65 → ∃ v, cs[j]? = some v) ∧ ∀ (j : Nat) c, S[j]? = some c → cs[65 - k + j]? = some (.int .u8 (c.toNat : Int))
theorem FB.cell {b x k : Nat} {S : List UInt8} {w W : World} (h : FB b x k S w W) {j : Nat} (hj : j < 65) : (∃ v, W.cell? ⟨b, j, none⟩ = some v) ∧ W.frozen? ⟨b, j, none⟩ = false := by
  obtain ⟨cs, h1, h2, h3, _⟩ := h.cs
  obtain ⟨v, hv⟩ := h3 j hj
  exact ⟨⟨v, h1.at hv⟩, h1.z j⟩
theorem FB.put {b x x' k q : Nat} {S : List UInt8} {w W : World} (h : FB b x k S w W) (hq : q + k + 1 = 65) (c : UInt8) : FB b x' (k + 1) (c :: S) w (W.setCell ⟨b, q, none⟩ (.int .u8 (c.toNat : Int))) := by
  obtain ⟨cs, h1, h2, h3, h4⟩ := h.cs
  refine ⟨h.ow.set h.bb q _, h.bb, by rw [List.length_cons, h.len], cs.setIfInBounds q (.int .u8 (c.toNat : Int)), h1.set q _, by simpa using h2, fun j hj => ?_, fun j d hd => ?_⟩
  · exact ⟨_, Array.getElem?_eq_getElem (by simpa [h2] using hj)⟩
  · cases j with
    | zero =>
      simp only [List.getElem?_cons_zero, Option.some.injEq] at hd
      subst hd
      rw [show 65 - (k + 1) + 0 = q by omega, Array.getElem?_setIfInBounds_self_of_lt (by omega)]
    | succ j =>
      simp only [List.getElem?_cons_succ] at hd
      rw [show 65 - (k + 1) + (j + 1) = 65 - k + j by have := (List.getElem?_eq_some_iff.1 hd).1; have := h.len; omega, Array.getElem?_setIfInBounds_ne (by omega)]
      exact h4 j d hd
theorem hexL_pos (u : Nat) : 1 ≤ (hexL u).length := List.length_pos_iff.2 (Sc.hexL_ne u)
theorem ix16 (r : Nat) (hr : r < 16) (W : World) : (Instr.index 9 (.string ⟨#[48, 49, 50, 51, 52, 53, 54, 55, 56, 57, 97, 98, 99, 100, 101, 102, 103, 104, 105, 106, 107, 108, 109, 110, 111, 112, 113, 114, 115, 116, 117, 118, 119, 120, 121, 122]⟩) (.int .u64 (r : Int))).run Tryd.prog W = .ok (.int .u8 ((hexD r).toNat : Int)) W := by
  rcases (show r = 0 ∨ r = 1 ∨ r = 2 ∨ r = 3 ∨ r = 4 ∨ r = 5 ∨ r = 6 ∨ r = 7 ∨ r = 8 ∨ r = 9 ∨ r = 10 ∨ r = 11 ∨ r = 12 ∨ r = 13 ∨ r = 14 ∨ r = 15 by omega) with rfl | rfl | rfl | rfl | rfl | rfl | rfl | rfl | rfl | rfl | rfl | rfl | rfl | rfl | rfl | rfl
  all_goals kernel_rfl
theorem and15 (x : Nat) (hx : x < 18446744073709551616) : bits BinOp.and IntKind.u64 (x : Int) 15 = ((x % 16 : Nat) : Int) := by
  have := bits_and_u64_nat x 15 hx (by decide)
  rw [show x &&& 15 = x % 16 from Nat.and_two_pow_sub_one_eq_mod x 4] at this
  exact this
theorem FB.start (w : World) (cs : Array Value) (hs : cs.size = 65) (x : Nat) : FB w.heap.size x 0 [] w (w.alloc (.cells cs 108)) :=
  ⟨(Ow.refl _).alloc _, Nat.le_refl _, rfl, cs, Bx.new _ _ _, hs, fun j hj => ⟨_, Array.getElem?_eq_getElem (by omega)⟩, fun j c h => by simp at h⟩
theorem add_zero_off (b q : Nat) : (⟨b, 0, none⟩ : Addr).add q = ⟨b, q, none⟩ := by cases q <;> simp [Addr.add]
theorem sl65 (b q n : Nat) (hq : q + n = 65) (hn : 0 < n) (W : World) : (Instr.sliceAt 108 (.pointer (some ⟨b, 0, none⟩)) (some (.int .i64 (q : Int))) none none).run Tryd.prog W = .ok (.slice (some ⟨b, q, none⟩) n n) W := by
  have e1 : Tryd.prog.arrayLen 108 = 65 := by kernel_rfl
  have e2 : (sizeOf (Tryd.prog.elem 108)).run Tryd.prog W = .ok 1 W := by kernel_rfl
  rw [run_sliceAt_array_l W 108 _ (by kernel_rfl) .i64 (q : Int) (by omega) (by rw [e1]; omega), e2, e1]
  show Result.ok (slicedAt _ _ _ _ _) W = _
  unfold slicedAt
  rw [Int.toNat_natCast, if_neg (by omega), Nat.mul_one, add_zero_off, show 65 - q = n by omega]
theorem FB.conv {b x k q : Nat} {S : List UInt8} {w W : World} (h : FB b x k S w W) (hq : q + k = 65) (cap : Nat) (u : ByteArray) (hu : u.data.toList = S) : (convert 63 9 (.slice (some ⟨b, q, none⟩) k cap)).run Tryd.prog W = .ok (.string u) W := by
  obtain ⟨cs, h1, h2, h3, h4⟩ := h.cs
  subst hu
  have hl := h.len
  have := run_convert_bytes_back W 63 9 5 ⟨b, q, none⟩ cap u.data.toList Tryd.underlying63 Tryd.underlying5 Tryd.underlying9 (fun j hj => by
    have e : (⟨b, q, none⟩ : Addr).add j = ⟨b, q + j, none⟩ := by cases j <;> simp [Addr.add]
    rw [e]
    refine h1.at ?_
    have := h4 j _ (List.getElem?_eq_getElem hj)
    rwa [show 65 - k + j = q + j by omega] at this)
  rw [hl, ba_mk] at this
  exact this
set_option maxRecDepth 100000 in
set_option maxHeartbeats 4000000 in
theorem fmt16 (v : Nat) (hv : v < 18446744073709551616) (u : ByteArray) (hu : u.data.toList = hexL v) (w : World) (hd : Db w) :
    Calls Tryd.prog 46 #[.slice none 0 0, .int .u64 v, .int .i64 16, .bool false, .bool false] w fun e w' => e = .returned (.tuple #[.slice none 0 0, .string u]) ∧ Ow w w' := by
  have HU := Lib.hid hu
  have HD := Lib.hid hd
  have HL : Hid ((hexL v).length ≤ 16) := Sc.hexL_len 15 v (by simpa using hv)
  clear hu hd
  have f1 : IntKind.i64.wrap (16 - 1) = 15 := by decide
  have f2 : bits BinOp.and IntKind.i64 16 15 = 0 := by decide +kernel
  go_enter Tryd.func46, Tryd.ntmps46
  go_wp2_with (first
    | (go_at_call 67; refine (tz16 _ (HD.out.below ((Ow.refl _).alloc _))).mono ?_; rintro e w1 ⟨rfl, rfl⟩)
    | (go_at_call 66; go_in))
  go_loopw [1, 13] (fun xu i wr => ∃ (x q k : Nat) (S : List UInt8), xu = .int .u64 x ∧ i = .int .i64 q ∧ q + k = 65 ∧ x < 18446744073709551616 ∧ Hid (hexL v = hexL x ++ S) ∧ Hid (FB w.heap.size x k S w wr)) (fun xu _ _ => (intOf xu).toNat)
  case atStart => exact ⟨v, 65, 0, [], rfl, rfl, rfl, hv, by rw [Hid]; simp, FB.start w _ rfl v⟩
  case round =>
    obtain ⟨x, q, k, S, rfl, rfl, hqk, hx64, HS, HF⟩ := hrel
    have hk15 : k ≤ 15 := by
      have h1 := HL.out
      have h2 := hexL_pos x
      rw [HS.out, List.length_append, HF.out.len] at h1
      omega
    obtain ⟨q', rfl⟩ : ∃ q', q = q' + 1 := ⟨q - 1, by omega⟩
    obtain ⟨⟨c0, hc0⟩, hz0⟩ := HF.out.cell (j := q') (by omega)
    have hq65 : q' < 65 := by omega
    have hqs : q' + k + 1 = 65 := by omega
    have w1 : IntKind.i64.wrap (q' : Int) = (q' : Int) := IntWalk.i64_in _ (by omega)
    clear hqk hk15
    by_cases hx : x < 16
    · have HE : Hid (hexL v = hexD x :: S) := by rw [Hid, HS.out, Sc.hexL_small hx]; rfl
      have ix := ix16 x hx
      have HQ := Lib.hid (HF.out.put (x' := x) hqs (hexD x))
      have ex : decide ((16 : Int) ≤ (x : Int)) = false := decide_eq_false (by omega)
      have hsl := sl65 w.heap.size q' (k + 1) (by omega) (by omega)
      have hcv := HQ.out.conv (q := q') (by omega) (k + 1) u (by rw [HU.out, HE.out])
      clear hx
      go_wp2_with fail
      go_ret2
      exact ⟨rfl, HQ.out.ow⟩
    · obtain ⟨r, hr⟩ : ∃ r, x % 16 = r := ⟨_, rfl⟩
      have hr16 : r < 16 := by omega
      have ix := ix16 r hr16
      have ha := and15 x hx64
      rw [hr] at ha
      have ex : (16 : Int) ≤ (x : Int) := by omega
      have HS2 : Hid (hexL v = hexL (x / 16) ++ hexD r :: S) := by rw [Hid, HS.out, Sc.hexL_big hx, hr]; simp
      have HQ := Lib.hid (HF.out.put (x' := x / 16) hqs (hexD r))
      have hlt : x / 16 < x := by omega
      have h64 : x / 16 < 18446744073709551616 := by omega
      clear hx hr
      go_wp2_with fail
      exact ⟨⟨x / 16, q', k + 1, hexD r :: S, by simp, rfl, by omega, h64, HS2, HQ⟩, by simp [intOf]; omega⟩
end Go.Proofs.YtaojogaakhidhaaDoor

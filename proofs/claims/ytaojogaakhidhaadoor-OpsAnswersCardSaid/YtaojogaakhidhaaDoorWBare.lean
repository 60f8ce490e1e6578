/- Package words: the walks of isBare, Name. -/
import Derived.Test.YtaojogaakhidhaaDoorWDec
namespace Go.Proofs.YtaojogaakhidhaaDoor
open Go.RowKit
open Wd (plainB bareB bareC)

def BPost (s : ByteArray) (w : World) (e : Ending) (w' : World) : Prop := e = .returned (.bool (bareB s.data.toList)) ∧ Ow w w'
theorem bareC_at (c : UInt8) : bareC c = (plainB c && !(c.toNat == 32)) := by
  have := Wd.all256 (p := fun c => bareC c == (plainB c && !(c.toNat == 32))) (by decide +kernel) c
  simpa using this
theorem bare_no {s : ByteArray} {k : Nat} (hk : k < s.size) (h : bareC s[k] = false) : bareB s.data.toList = false := by
  have : s.data.toList.all bareC = false := by
    rw [List.all_eq_false]
    exact ⟨s[k], List.mem_of_getElem? (ba_at s k hk), by simpa using h⟩
  simp [bareB, this]
theorem take_all {s : ByteArray} {p : UInt8 → Bool} {k : Nat} (hk : k < s.size) (h : (s.data.toList.take k).all p = true) (hp : p s[k] = true) : (s.data.toList.take (k + 1)).all p = true := by
  rw [List.take_add_one, ba_at s k hk, List.all_append, h]
  simp [hp]

set_option maxHeartbeats 1000000 in
theorem isBare_any (s : ByteArray) (w : World) (hs : s.size ≤ 9000) :
    Calls Tryd.prog 62 #[.string s] w (BPost s w) := by
  go_enter Tryd.func62, Tryd.ntmps62
  go_wp2
  go_loopw [6] (fun i wr => ∃ k : Nat, k ≤ s.size ∧ i = .int .i64 k ∧ (s.data.toList.take k).all bareC = true ∧ w = wr) (fun i _ => s.size - (intOf i).toNat)
  case atStart => exact ⟨0, by omega, rfl, by simp, rfl⟩
  case round =>
    obtain ⟨k, hk, rfl, ha, rfl⟩ := hrel
    have HA := Lib.hid ha
    clear ha
    by_cases hlt : k < s.size
    · obtain ⟨n, hn⟩ : ∃ n : Nat, s[k].toNat = n := ⟨_, rfl⟩
      have HN := Lib.hid hn
      have el : decide (k < s.size) = true := by simpa using hlt
      cases hp : plainB s[k] with
      | false =>
        have HF : Hid (bareB s.data.toList = false) := bare_no hlt (by rw [bareC_at, hp]; rfl)
        have HP := Lib.hid hp
        clear hp
        go_wp2_with (go_at_call 81; refine (isPlain_is _ _ HN.out _ HP.out _).mono ?_; rintro e w2 ⟨rfl, rfl⟩)
        go_ret
        unfold BPost
        rw [HF.out]
        exact ⟨rfl, Ow.refl _⟩
      | true =>
        have HP := Lib.hid hp
        clear hp
        by_cases h32 : n = 32
        · have HF : Hid (bareB s.data.toList = false) := bare_no hlt (by rw [bareC_at, HP.out, HN.out, h32]; rfl)
          subst h32
          go_wp2_with (go_at_call 81; refine (isPlain_is _ _ HN.out _ HP.out _).mono ?_; rintro e w2 ⟨rfl, rfl⟩)
          go_ret
          unfold BPost
          rw [HF.out]
          exact ⟨rfl, Ow.refl _⟩
        · have HF : Hid ((s.data.toList.take (k + 1)).all bareC = true) := take_all hlt HA.out (by rw [bareC_at, HP.out, HN.out]; simpa using h32)
          have e32 : ((n : Int) == 32) = false := by rw [beq_eq_false_iff_ne]; omega
          clear h32
          go_wp2_with (go_at_call 81; refine (isPlain_is _ _ HN.out _ HP.out _).mono ?_; rintro e w2 ⟨rfl, rfl⟩)
          go_roundw
          case rel => exact ⟨k + 1, by omega, by go_num, HF.out, by first | rfl | trivial⟩
          case measure => simp [intOf]; omega
    · have el : decide (k < s.size) = false := by simpa using hlt
      have HF : Hid (s.data.toList.all bareC = true) := by
        have := HA.out
        rwa [List.take_of_length_le (by rw [ba_len]; omega)] at this
      go_wp2
      go_ret
      unfold BPost
      refine ⟨retB ?_, Ow.refl _⟩
      rw [bareB, HF.out, ba_toList]
      rfl

def nameC (c : UInt8) : Bool := (97 ≤ c && c ≤ 122) || (48 ≤ c && c ≤ 57) || c == 45
/-- Is a string a name? -/
def nameB (l : List UInt8) : Bool := !l.isEmpty && decide (l.length ≤ 16) && (match l.head? with | some c => 97 ≤ c && c ≤ 122 | none => false) && l.all nameC
def NPost (s : ByteArray) (w : World) (e : Ending) (w' : World) : Prop := e = .returned (.bool (nameB s.data.toList)) ∧ Below w.heap.size w w'
theorem name_contains (c : UInt8) : ([97, 98, 99, 100, 101, 102, 103, 104, 105, 106, 107, 108, 109, 110, 111, 112, 113, 114, 115, 116, 117, 118, 119, 120, 121, 122, 48, 49, 50, 51, 52, 53, 54, 55, 56, 57, 45] : List UInt8).contains c = nameC c := by
  have := Wd.all256 (p := fun c => ([97, 98, 99, 100, 101, 102, 103, 104, 105, 106, 107, 108, 109, 110, 111, 112, 113, 114, 115, 116, 117, 118, 119, 120, 121, 122, 48, 49, 50, 51, 52, 53, 54, 55, 56, 57, 45] : List UInt8).contains c == nameC c) (by decide +kernel) c
  simpa using this
theorem low_at (c : UInt8) : (97 ≤ c && c ≤ 122) = (decide (97 ≤ c.toNat) && decide (c.toNat ≤ 122)) := by
  have := Wd.all256 (p := fun c => (97 ≤ c && c ≤ 122) == (decide (97 ≤ c.toNat) && decide (c.toNat ≤ 122))) (by decide +kernel) c
  simpa using this
theorem trimName (t u : ByteArray) (h : u.data.toList = Lib.trimS t.data.toList [97, 98, 99, 100, 101, 102, 103, 104, 105, 106, 107, 108, 109, 110, 111, 112, 113, 114, 115, 116, 117, 118, 119, 120, 121, 122, 48, 49, 50, 51, 52, 53, 54, 55, 56, 57, 45]) (w : World) (ht : t.size ≤ 9000) : Calls Tryd.prog 34 #[.string t, .string ⟨#[97, 98, 99, 100, 101, 102, 103, 104, 105, 106, 107, 108, 109, 110, 111, 112, 113, 114, 115, 116, 117, 118, 119, 120, 121, 122, 48, 49, 50, 51, 52, 53, 54, 55, 56, 57, 45]⟩] w fun e w' => e = .returned (.string u) ∧ Below w.heap.size w w' := by
  refine (Tryd.strings_Trim t ⟨#[97, 98, 99, 100, 101, 102, 103, 104, 105, 106, 107, 108, 109, 110, 111, 112, 113, 114, 115, 116, 117, 118, 119, 120, 121, 122, 48, 49, 50, 51, 52, 53, 54, 55, 56, 57, 45]⟩ w (by omega) (by decide) (ascii_of_all (by decide))).mono fun e1 w1 ⟨h1, h2⟩ => ⟨?_, h2⟩
  rw [h1]
  show Ending.returned (.string ⟨(Lib.trimS t.data.toList _).toArray⟩) = _
  rw [← h, ba_mk]

end Go.Proofs.YtaojogaakhidhaaDoor

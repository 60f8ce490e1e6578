/- Package words: the walks of isDecimal, Int, Name, Digits, Unquote, isBare. -/
import Derived.Test.YtaojogaakhidhaaDoorWUnq
import Derived.Test.YtaojogaakhidhaaDoorWNum
namespace Go.Proofs.YtaojogaakhidhaaDoor
open Go.RowKit
open Wd (plainB letB digB unsign decimalB decVal intV intE bareB bareC)

theorem tw_all {p : UInt8 → Bool} {x : UInt8} : ∀ {l : List UInt8}, x ∈ l.takeWhile p → p x = true
  | [], h => by simp at h
  | a :: l, h => by
    rw [List.takeWhile_cons] at h
    by_cases ha : p a = true
    · rw [if_pos ha] at h
      rcases List.mem_cons.1 h with rfl | h
      · exact ha
      · exact tw_all h
    · rw [if_neg ha] at h; cases h
theorem dw_nil {p : UInt8 → Bool} : ∀ {l : List UInt8}, l.dropWhile p = [] ↔ ∀ x ∈ l, p x = true
  | [] => by simp
  | a :: l => by
    rw [List.dropWhile_cons]
    by_cases h : p a = true
    · rw [if_pos h, dw_nil]; simp [h]
    · rw [if_neg h]; simp [h]
theorem trim_all {l cs : List UInt8} (h : l.all (cs.contains ·) = true) : Lib.trimS l cs = [] := by
  have e : l.reverse.dropWhile (cs.contains ·) = [] := by
    rw [dw_nil]
    intro x hx
    exact List.all_eq_true.1 h x (List.mem_reverse.1 hx)
  unfold Lib.trimS Lib.trimRightS
  rw [e]; rfl
theorem trim_some {l cs : List UInt8} (h : l.all (cs.contains ·) = false) : Lib.trimS l cs ≠ [] := by
  obtain ⟨x, hx, hc⟩ := List.all_eq_false.1 h
  have hc' : cs.contains x = false := by simpa using hc
  intro e
  unfold Lib.trimS Lib.trimLeftS at e
  rw [dw_nil] at e
  have hm : x ∈ Lib.trimRightS l cs := by
    unfold Lib.trimRightS
    rw [List.mem_reverse]
    have h1 := List.takeWhile_append_dropWhile (p := (cs.contains ·)) (l := l.reverse)
    have h2 : x ∈ l.reverse := List.mem_reverse.2 hx
    rw [← h1, List.mem_append] at h2
    rcases h2 with h2 | h2
    · have := tw_all h2
      rw [hc'] at this; cases this
    · exact h2
  have := e x hm
  rw [hc'] at this; cases this
theorem trimMinus (s t : ByteArray) (h : t.data.toList = unsign s.data.toList) (w : World) : Calls Tryd.prog 48 #[.string s, .string ⟨#[45]⟩] w fun e w' => e = .returned (.string t) ∧ w = w' := by
  have e : Lib.trimPrefix s.data.toList [45] = t.data.toList := by
    rw [h]
    unfold Lib.trimPrefix unsign
    cases s.data.toList with
    | nil => rfl
    | cons c r =>
      by_cases hc : c = 45
      · subst hc; simp [Lib.hasPrefix]
      · have : ¬ 45 = c := fun e => hc e.symm
        simp [Lib.hasPrefix, hc, this]
  refine (Tryd.strings_TrimPrefix s ⟨#[45]⟩ w).mono fun e1 w1 ⟨h1, h2⟩ => ⟨?_, h2.symm⟩
  rw [h1]
  show Ending.returned (.string ⟨(Lib.trimPrefix s.data.toList [45]).toArray⟩) = _
  rw [e, ba_mk]
theorem trimDig (t u : ByteArray) (h : u.data.toList = Lib.trimS t.data.toList [48, 49, 50, 51, 52, 53, 54, 55, 56, 57]) (w : World) (ht : t.size ≤ 9000) : Calls Tryd.prog 34 #[.string t, .string ⟨#[48, 49, 50, 51, 52, 53, 54, 55, 56, 57]⟩] w fun e w' => e = .returned (.string u) ∧ Below w.heap.size w w' := by
  refine (Tryd.strings_Trim t ⟨#[48, 49, 50, 51, 52, 53, 54, 55, 56, 57]⟩ w (by omega) (by decide) (ascii_of_all (by decide))).mono fun e1 w1 ⟨h1, h2⟩ => ⟨?_, h2⟩
  rw [h1]
  show Ending.returned (.string ⟨(Lib.trimS t.data.toList [48, 49, 50, 51, 52, 53, 54, 55, 56, 57]).toArray⟩) = _
  rw [← h, ba_mk]
theorem dig_contains (c : UInt8) : ([48, 49, 50, 51, 52, 53, 54, 55, 56, 57] : List UInt8).contains c = digB c := by
  have := Wd.all256 (p := fun c => ([48, 49, 50, 51, 52, 53, 54, 55, 56, 57] : List UInt8).contains c == digB c) (by decide +kernel) c
  simpa using this
def DPost (s : ByteArray) (w : World) (e : Ending) (w' : World) : Prop := e = .returned (.bool (decimalB s.data.toList)) ∧ Below w.heap.size w w'
theorem unsign_le (l : List UInt8) : (unsign l).length ≤ l.length := by unfold unsign; split <;> simp

set_option maxHeartbeats 1000000 in
theorem isDecimal_any (s : ByteArray) (w : World) (hs : s.size ≤ 9000) :
    Calls Tryd.prog 32 #[.string s] w (DPost s w) := by
  obtain ⟨t, ht⟩ : ∃ t : ByteArray, t.data.toList = unsign s.data.toList := ⟨⟨(unsign s.data.toList).toArray⟩, rfl⟩
  have hts : t.size ≤ 9000 := by have := unsign_le s.data.toList; rw [← ht, ba_len, ba_len] at this; omega
  have HT := Lib.hid ht
  clear ht
  by_cases hz : t.size = 0
  · have HF : Hid (decimalB s.data.toList = false) := by
      rw [Hid, decimalB, ← HT.out, ba_nil hz]; rfl
    have e0 := ba_empty hz
    clear hz
    go_enter Tryd.func32, Tryd.ntmps32
    go_wp2_with (go_at_call 48; refine (trimMinus _ _ HT.out _).mono ?_; rintro e w' ⟨rfl, rfl⟩)
    go_ret
    unfold DPost
    rw [HF.out]
    exact ⟨rfl, Below.refl _ _⟩
  · have h0 : 0 < t.size := by omega
    have e1 := ba_full h0
    obtain ⟨u, hu⟩ : ∃ u : ByteArray, u.data.toList = Lib.trimS t.data.toList [48, 49, 50, 51, 52, 53, 54, 55, 56, 57] := ⟨⟨(Lib.trimS t.data.toList [48, 49, 50, 51, 52, 53, 54, 55, 56, 57]).toArray⟩, rfl⟩
    have HU := Lib.hid hu
    clear hu
    cases ha : t.data.toList.all digB with
    | false =>
      have HF : Hid (decimalB s.data.toList = false) := by rw [Hid, decimalB, ← HT.out, ha]; simp
      have hu0 : u.toList.isEmpty = false := by
        rw [ba_toList, HU.out, List.isEmpty_eq_false_iff]
        refine trim_some ?_
        rw [← ha]
        congr 1; funext c; exact dig_contains c
      have hu1 : (!u.toList.isEmpty) = true := by rw [hu0]; rfl
      clear ha hz
      go_enter Tryd.func32, Tryd.ntmps32
      go_wp2_with (first | (go_at_call 48; refine (trimMinus _ _ HT.out _).mono ?_; rintro e w' ⟨rfl, rfl⟩) | (go_at_call 34; refine (trimDig _ _ HU.out _ hts).mono ?_; rintro e w2 ⟨rfl, hb2⟩))
      go_ret
      unfold DPost
      rw [HF.out]
      exact ⟨rfl, hb2⟩
    | true =>
      have HA := Lib.hid ha
      have hu0 : u.toList.isEmpty = true := by
        rw [ba_toList, HU.out, List.isEmpty_iff]
        refine trim_all ?_
        rw [← ha]
        congr 1; funext c; exact dig_contains c
      clear ha hz
      have HS : Hid (t.data.toList = t[0] :: t.data.toList.drop 1) := ba_cons t h0
      obtain ⟨n, hn⟩ : ∃ n : Nat, t[0].toNat = n := ⟨_, rfl⟩
      have HN := Lib.hid hn
      by_cases h48 : n = 48
      · subst h48
        go_enter Tryd.func32, Tryd.ntmps32
        go_wp2_with (first | (go_at_call 48; refine (trimMinus _ _ HT.out _).mono ?_; rintro e w' ⟨rfl, rfl⟩) | (go_at_call 34; refine (trimDig _ _ HU.out _ hts).mono ?_; rintro e w2 ⟨rfl, hb2⟩))
        go_ret
        unfold DPost
        refine ⟨?_, hb2⟩
        refine retB ?_
        rw [ba_toList]
        unfold decimalB
        rw [← HT.out, HA.out, HS.out]
        have e : t[0] = 48 := by apply UInt8.toNat_inj.1; rw [HN.out]; rfl
        rw [e]
        simp
      · have e48 : ((n : Int) != 48) = true := by rw [bne_iff_ne]; omega
        have HF : Hid (decimalB s.data.toList = true) := by
          refine Wd.decimal_mk ?_ ?_ (.inl ?_)
          · rw [← HT.out, HS.out]; simp
          · rw [← HT.out]; exact HA.out
          · rw [← HT.out, HS.out]; intro e; simp only [List.head?_cons, Option.some.injEq] at e; apply h48; rw [← HN.out, e]; rfl
        clear h48
        go_enter Tryd.func32, Tryd.ntmps32
        go_wp2_with (first | (go_at_call 48; refine (trimMinus _ _ HT.out _).mono ?_; rintro e w' ⟨rfl, rfl⟩) | (go_at_call 34; refine (trimDig _ _ HU.out _ hts).mono ?_; rintro e w2 ⟨rfl, hb2⟩))
        go_ret
        unfold DPost
        rw [HF.out]
        exact ⟨rfl, hb2⟩

theorem isDecimal_is (s : ByteArray) (b : Bool) (h : decimalB s.data.toList = b) (w : World) (hs : s.size ≤ 9000) :
    Calls Tryd.prog 32 #[.string s] w fun e w' => e = .returned (.bool b) ∧ Below w.heap.size w w' := by
  have := isDecimal_any s w hs
  unfold DPost at this
  rwa [h] at this
theorem pInt_ok (s : ByteArray) (v : Int) (h : Lib.parseIntB 64 s.data.toList = .ok v) (w : World) (hs : s.size ≤ 9000) :
    Calls Tryd.prog 33 #[.string s, .int .i64 10, .int .i64 64] w fun e w' => e = .returned (.tuple #[.int .i64 v, .nilIface]) ∧ Below w.heap.size w w' :=
  (Tryd.strconv_ParseInt_10_at64_ok s (by omega) v h w).mono fun e w' ⟨h1, h2⟩ => ⟨h1, by
    rcases h2 with rfl | ⟨t, rfl⟩
    · exact Below.refl _ _
    · exact Lib.bytesWorld_below _ _ _⟩
theorem pInt_bad (s : ByteArray) (h : Lib.parseIntB 64 s.data.toList = .range) (w : World) (hs : s.size ≤ 9000) (hg : Gl w) :
    Calls Tryd.prog 33 #[.string s, .int .i64 10, .int .i64 64] w fun e w' => (∃ (a : Int) (T : TypeId) (N : Nat), e = .returned (.tuple #[.int .i64 a, .iface T (.pointer (some ⟨N, 0, none⟩))])) ∧ Below w.heap.size w w' := by
  obtain ⟨tp, p, hr⟩ := hg.rng
  exact (Tryd.strconv_ParseInt_10_at64_range_var s (by omega) h tp p w hr).mono fun e w' ⟨N, h1, _, _, h4⟩ => ⟨⟨_, _, N, h1⟩, h4⟩
def IPost (s : ByteArray) (lo hi : Int) (w : World) (e : Ending) (w' : World) : Prop := e = .returned (.tuple #[.int .i64 (intV s.data.toList lo hi), .int .i64 (intE s.data.toList lo hi)]) ∧ Below w.heap.size w w'
/-- Both numbers are int64. -/
def Ends (lo hi : Int) : Prop := -9223372036854775808 ≤ lo ∧ hi ≤ 9223372036854775807

set_option maxHeartbeats 1000000 in
theorem int_any (s : ByteArray) (lo hi : Int) (w : World) (hs : s.size ≤ 9000) (hg : Gl w) (he : Ends lo hi) :
    Calls Tryd.prog 19 #[.string s, .int .i64 lo, .int .i64 hi] w (IPost s lo hi w) := by
  have HG := Lib.hid hg
  have HE := Lib.hid he
  clear hg he
  cases hd : decimalB s.data.toList with
  | false =>
    have HD := Lib.hid hd
    have HF : Hid (intV s.data.toList lo hi = 0 ∧ intE s.data.toList lo hi = 6) := by simp [Hid, intV, intE, hd]
    clear hd
    go_enter Tryd.func19, Tryd.ntmps19
    go_wp2_with (go_at_call 32; refine (isDecimal_is _ _ HD.out _ hs).mono ?_; rintro e w2 ⟨rfl, hb2⟩)
    go_ret2
    unfold IPost
    rw [HF.out.1, HF.out.2]
    exact ⟨rfl, hb2⟩
  | true =>
    have HD := Lib.hid hd
    have HP := Lib.hid (Wd.parseInt_dec hd)
    obtain ⟨v, hv⟩ : ∃ v, decVal s.data.toList = v := ⟨_, rfl⟩
    have HV := Lib.hid hv
    clear hd hv
    by_cases hr : lo ≤ v ∧ v ≤ hi
    · have HQ : Hid (Lib.parseIntB 64 s.data.toList = .ok v) := by
        have := HP.out
        rw [HV.out, if_pos (by have := HE.out; unfold Ends at this; omega)] at this
        exact this
      have HF : Hid (intV s.data.toList lo hi = v ∧ intE s.data.toList lo hi = 0) := by simp [Hid, intV, intE, HD.out, HV.out, hr]
      obtain ⟨h1, h2⟩ := hr
      have g1 : ¬ v < lo := by omega
      have g2 : ¬ hi < v := by omega
      go_enter Tryd.func19, Tryd.ntmps19
      go_wp2_with (first | (go_at_call 32; refine (isDecimal_is _ _ HD.out _ hs).mono ?_; rintro e w2 ⟨rfl, hb2⟩) | (go_at_call 33; refine (pInt_ok _ _ HQ.out _ hs).mono ?_; rintro e w3 ⟨rfl, hb3⟩))
      go_ret2
      unfold IPost
      rw [HF.out.1, HF.out.2]
      exact ⟨rfl, Ow.then hb2 hb3⟩
    · have HF : Hid (intV s.data.toList lo hi = 0 ∧ intE s.data.toList lo hi = 7) := by
        refine ⟨?_, ?_⟩
        · unfold intV; rw [if_neg]; rintro ⟨_, h⟩; rw [HV.out] at h; exact hr h
        · unfold intE; rw [if_pos HD.out, if_neg]; rw [HV.out]; exact hr
      by_cases hin : -9223372036854775808 ≤ v ∧ v ≤ 9223372036854775807
      · have HQ : Hid (Lib.parseIntB 64 s.data.toList = .ok v) := by
          have := HP.out
          rw [HV.out, if_pos hin] at this
          exact this
        clear hin
        by_cases hlo : v < lo
        · clear hr
          go_enter Tryd.func19, Tryd.ntmps19
          go_wp2_with (first | (go_at_call 32; refine (isDecimal_is _ _ HD.out _ hs).mono ?_; rintro e w2 ⟨rfl, hb2⟩) | (go_at_call 33; refine (pInt_ok _ _ HQ.out _ hs).mono ?_; rintro e w3 ⟨rfl, hb3⟩))
          go_ret2
          unfold IPost
          rw [HF.out.1, HF.out.2]
          exact ⟨rfl, Ow.then hb2 hb3⟩
        · have hhi : hi < v := by omega
          clear hr
          go_enter Tryd.func19, Tryd.ntmps19
          go_wp2_with (first | (go_at_call 32; refine (isDecimal_is _ _ HD.out _ hs).mono ?_; rintro e w2 ⟨rfl, hb2⟩) | (go_at_call 33; refine (pInt_ok _ _ HQ.out _ hs).mono ?_; rintro e w3 ⟨rfl, hb3⟩))
          go_ret2
          unfold IPost
          rw [HF.out.1, HF.out.2]
          exact ⟨rfl, Ow.then hb2 hb3⟩
      · have HQ : Hid (Lib.parseIntB 64 s.data.toList = .range) := by
          have := HP.out
          rw [HV.out, if_neg hin] at this
          exact this
        clear hin hr
        go_enter Tryd.func19, Tryd.ntmps19
        go_wp2_with (first | (go_at_call 32; refine (isDecimal_is _ _ HD.out _ hs).mono ?_; rintro e w2 ⟨rfl, hb2⟩) | (go_at_call 33; refine (pInt_bad _ HQ.out _ hs (HG.out.below hb2)).mono ?_; rintro e w3 ⟨⟨a, T, N, rfl⟩, hb3⟩))
        go_ret2
        unfold IPost
        rw [HF.out.1, HF.out.2]
        exact ⟨rfl, Ow.then hb2 hb3⟩

theorem unquote_at (s : ByteArray) (a : List UInt8) (n : Nat) (h1 : Wd.unqS s.data.toList = a) (h2 : Wd.unqN s.data.toList = n) (w : World) (hs : s.size ≤ 20000) (hg : Gl w) :
    Calls Tryd.prog 61 #[.string s] w fun e w' => e = .returned (.tuple #[.string ⟨a.toArray⟩, .int .i64 (n : Int)]) ∧ Below w.heap.size w w' := by
  have := unquote_any s w hs hg
  unfold UqPost at this
  rwa [h1, h2] at this
theorem unquote_is (s : ByteArray) (a : List UInt8) (n : Nat) (h1 : Wd.unqS s.data.toList = a) (h2 : Wd.unqN s.data.toList = n) (w : World) (hs : s.size ≤ 9000) (hg : Gl w) :
    Calls Tryd.prog 61 #[.string s] w fun e w' => e = .returned (.tuple #[.string ⟨a.toArray⟩, .int .i64 (n : Int)]) ∧ Below w.heap.size w w' :=
  unquote_at s a n h1 h2 w (by omega) hg
def UnqPost (s : ByteArray) (w : World) (e : Ending) (w' : World) : Prop := e = .returned (.tuple #[.string ⟨(Wd.unquoteS s.data.toList).toArray⟩, .int .i64 (Wd.unquoteE s.data.toList)]) ∧ Below w.heap.size w w'
end Go.Proofs.YtaojogaakhidhaaDoor

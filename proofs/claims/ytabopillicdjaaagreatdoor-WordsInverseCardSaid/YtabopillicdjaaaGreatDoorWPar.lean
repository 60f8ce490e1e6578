/- Package words: ParseList: the parts. -/
import Derived.Test.YtabopillicdjaaaGreatDoorWCmp
import Derived.Test.YtabopillicdjaaaGreatDoorQ4
namespace Go.Proofs.YtabopillicdjaaaGreatDoor
open Go.RowKit
open Wd (natB valN decimalB runOf runsF expL expP cntP lastV plE plS partsL farTo Pr)

theorem cut_cases (l : List UInt8) : (Lib.cut l [45] = (l, [], false) ∧ ∀ x ∈ l, x ≠ 45) ∨ ∃ a b, Lib.cut l [45] = (a, b, true) ∧ l = a ++ 45 :: b ∧ ∀ x ∈ a, x ≠ 45 := by
  unfold Lib.cut
  rcases Lib.index_spec l [45] with ⟨h1, h2⟩ | ⟨i, h1, h2, h3, h4⟩
  · left
    rw [h1, if_neg (by omega)]
    refine ⟨rfl, fun x hx e => ?_⟩
    subst e
    obtain ⟨j, hj, e⟩ := List.getElem_of_mem hx
    have := h2 j (by omega)
    rw [(Wd.occ_one l 45 j).2 (List.getElem?_eq_some_iff.2 ⟨hj, e⟩)] at this
    cases this
  · right
    have hi := (Wd.occ_one l 45 i).1 h3
    have hno : ∀ x ∈ l.take i, x ≠ 45 := Wd.take_no (fun j hj e => by
      have := h4 j hj
      rw [(Wd.occ_one l 45 j).2 e] at this
      cases this)
    rw [h1, if_pos (by omega)]
    exact ⟨l.take i, l.drop (i + 1), rfl, Wd.mem_split_at hi, hno⟩
theorem run_single {l : List UInt8} (h : ∀ x ∈ l, x ≠ 45) : runOf l = if decimalB l = true then some (l, l) else none := by
  unfold runOf
  rw [Wd.parts_none h]
  simp only
  rw [Wd.natB_dec h]
theorem run_double {a b : List UInt8} (h : ∀ x ∈ a, x ≠ 45) : runOf (a ++ 45 :: b) = if decimalB a = true ∧ natB b = true ∧ valN a < valN b then some (a, b) else none := by
  unfold runOf
  rw [Wd.parts_cut b h]
  by_cases hb : natB b = true
  · rw [Wd.parts_none (fun x hx => (Wd.natB_no hb x hx).1)]
    simp only
    rw [Wd.natB_dec h]
  · rw [if_neg (fun e => hb e.2.1)]
    have hj := Wd.parts_join 45 b
    match hp : partsL 45 b, hj with
    | [], _ => exact absurd hp (Wd.parts_ne 45 b)
    | [y], hj =>
      simp only [List.flatMap_cons, List.flatMap_nil, List.append_nil, List.cons.injEq, true_and] at hj
      subst hj
      simp only
      rw [if_neg (fun e => hb e.2.1)]
    | _ :: _ :: _, _ => rfl
theorem nat_head {b : List UInt8} (h : decimalB b = true) : natB b = true ↔ b.head? ≠ some 45 := by
  rw [natB, h, Bool.true_and, bne_iff_ne]
/-- What stands behind k runs. -/
structure Rn (L : List (List UInt8)) (k : Nat) (rs : List Pr) (last : ByteArray) : Prop where
  len : rs.length = k
  eq : runsF none L = (runsF (rs.getLast?.map (·.2)) (L.drop k)).map (rs ++ ·)
  lst : 0 < k → ∃ p, rs.getLast? = some p ∧ last.data.toList = p.2 ∧ natB p.2 = true
theorem Rn.start (L : List (List UInt8)) (u : ByteArray) : Rn L 0 [] u := ⟨rfl, by simp, fun h => absurd h (Nat.lt_irrefl _)⟩
theorem Rn.natB {L : List (List UInt8)} {k : Nat} {rs : List Pr} {last : ByteArray} (h : Rn L k rs last) (hk : 0 < k) : Wd.natB last.data.toList = true := by
  obtain ⟨p, _, h1, h2⟩ := h.lst hk
  rw [h1]; exact h2
theorem Rn.far {L : List (List UInt8)} {k : Nat} {rs : List Pr} {last : ByteArray} (h : Rn L k rs last) (x : List UInt8) : farTo (rs.getLast?.map (·.2)) x = true ↔ k = 0 ∨ valN last.data.toList + 1 < valN x := by
  rcases Nat.eq_zero_or_pos k with h0 | h0
  · have : rs = [] := List.length_eq_zero_iff.1 (h.len.trans h0)
    subst this
    simp [farTo, h0]
  · obtain ⟨p, h1, h2, _⟩ := h.lst h0
    rw [h1, h2]
    simp only [Option.map_some, farTo, decide_eq_true_eq]
    constructor
    · exact .inr
    · rintro (h | h)
      · omega
      · exact h
theorem Rn.step {L : List (List UInt8)} {k : Nat} {rs : List Pr} {last : ByteArray} (h : Rn L k rs last) {x : List UInt8} (hx : L[k]? = some x) : runsF none L = (match runOf x with | none => none | some p => if farTo (rs.getLast?.map (·.2)) p.1 = true then (runsF (some p.2) (L.drop (k + 1))).map (rs ++ p :: ·) else none) := by
  have hd : L.drop k = x :: L.drop (k + 1) := by
    obtain ⟨hk, e⟩ := List.getElem?_eq_some_iff.1 hx
    rw [← e, ← List.drop_eq_getElem_cons hk]
  rw [h.eq, hd, runsF]
  cases runOf x with
  | none => rfl
  | some p =>
    simp only
    split
    · rw [Option.map_map]; rfl
    · rfl
theorem Rn.bad {L : List (List UInt8)} {k : Nat} {rs : List Pr} {last : ByteArray} (h : Rn L k rs last) {x : List UInt8} (hx : L[k]? = some x) (hr : runOf x = none) : runsF none L = none := by rw [h.step hx, hr]
theorem Rn.near {L : List (List UInt8)} {k : Nat} {rs : List Pr} {last : ByteArray} (h : Rn L k rs last) {x : List UInt8} (hx : L[k]? = some x) {p : Pr} (hr : runOf x = some p) (hk : 0 < k) (hn : ¬ valN last.data.toList + 1 < valN p.1) : runsF none L = none := by
  rw [h.step hx, hr]
  simp only
  rw [if_neg (fun e => by rcases (h.far p.1).1 e with h | h; omega; exact hn h)]
theorem Rn.next {L : List (List UInt8)} {k : Nat} {rs : List Pr} {last : ByteArray} (h : Rn L k rs last) {x : List UInt8} (hx : L[k]? = some x) {p : Pr} (hr : runOf x = some p) (hf : k = 0 ∨ valN last.data.toList + 1 < valN p.1) {t : ByteArray} (ht : t.data.toList = p.2) : Rn L (k + 1) (rs ++ [p]) t := by
  refine ⟨by simp [h.len], ?_, fun _ => ⟨p, by simp, ht, (Wd.runOf_some hr).2.1⟩⟩
  rw [h.step hx, hr]
  simp only
  rw [if_pos ((h.far p.1).2 hf)]
  simp [List.append_assoc]
theorem Rn.done {L : List (List UInt8)} {k : Nat} {rs : List Pr} {last : ByteArray} (h : Rn L k rs last) (hk : L.length ≤ k) : runsF none L = some rs := by
  rw [h.eq, List.drop_eq_nil_iff.2 hk]
  simp [runsF]
theorem Rn.lastV {L : List (List UInt8)} {k : Nat} {rs : List Pr} {last : ByteArray} (h : Rn L k rs last) (hk : 0 < k) : Wd.lastV rs = valN last.data.toList := by
  obtain ⟨p, h1, h2, _⟩ := h.lst hk
  rw [Wd.lastV, h1, h2]
/-! What ParseList returns. -/
theorem pl_form {s : List UInt8} (hs : s ≠ [45]) (h : runsF none (partsL 44 s) = none) : plE s = 6 ∧ plS s = [] := by
  unfold plE plS; rw [if_neg hs, if_neg hs, h]; exact ⟨rfl, rfl⟩
theorem pl_range {s : List UInt8} {rs : List Pr} (hs : s ≠ [45]) (h : runsF none (partsL 44 s) = some rs) (h1 : 1000000000 < lastV rs) : plE s = 7 ∧ plS s = [] := by
  have e : plE s = 7 := by unfold plE; rw [if_neg hs, h]; simp only; rw [if_pos h1]
  refine ⟨e, ?_⟩
  unfold plS; rw [if_neg hs, h]; simp only; rw [if_neg (by rw [e]; decide)]
theorem pl_long {s : List UInt8} {rs : List Pr} (hs : s ≠ [45]) (h : runsF none (partsL 44 s) = some rs) (h1 : ¬ 1000000000 < lastV rs) (h2 : 500 < (expL rs).length) : plE s = 3 ∧ plS s = [] := by
  have e : plE s = 3 := by unfold plE; rw [if_neg hs, h]; simp only; rw [if_neg h1, if_pos h2]
  refine ⟨e, ?_⟩
  unfold plS; rw [if_neg hs, h]; simp only; rw [if_neg (by rw [e]; decide)]
theorem pl_ok {s : List UInt8} {rs : List Pr} (hs : s ≠ [45]) (h : runsF none (partsL 44 s) = some rs) (h1 : ¬ 1000000000 < lastV rs) (h2 : ¬ 500 < (expL rs).length) : plE s = 0 ∧ plS s = expL rs := by
  have e : plE s = 0 := by unfold plE; rw [if_neg hs, h]; simp only; rw [if_neg h1, if_neg h2]
  refine ⟨e, ?_⟩
  unfold plS; rw [if_neg hs, h]; simp only; rw [if_pos e]
theorem exp_take {rs : List Pr} {k : Nat} {p : Pr} (h : rs[k]? = some p) : expL rs = expL (rs.take k) ++ (expP p ++ expL (rs.drop (k + 1))) := by
  obtain ⟨hk, e⟩ := List.getElem?_eq_some_iff.1 h
  have : rs = rs.take k ++ p :: rs.drop (k + 1) := by rw [← e, ← List.drop_eq_getElem_cons hk, List.take_append_drop]
  conv => lhs; rw [this]
  simp [Wd.expL]
theorem exp_next {rs : List Pr} {k : Nat} {p : Pr} (h : rs[k]? = some p) : expL (rs.take (k + 1)) = expL (rs.take k) ++ expP p := by
  rw [List.take_add_one, h]
  simp [Wd.expL]
theorem short_val {l : List UInt8} (h : natB l = true) (hv : valN l ≤ 1000000000) : l.length ≤ 10 := by
  rcases Nat.lt_or_ge 10 l.length with hl | hl
  · exfalso
    obtain ⟨h1, h2, h3⟩ := Wd.natB_parts h
    match l, h2, h3, hl with
    | c :: r, h2, h3, hl =>
      simp only [List.all_cons, Bool.and_eq_true] at h2
      have h48 : c ≠ 48 := by
        rcases h3 with h3 | h3
        · simpa using h3
        · rw [h3] at hl; simp at hl
      have := Wd.nat_ge_pow (l := r) h2.1 h48
      have := Nat.pow_le_pow_right (n := 10) (by decide) (show 10 ≤ r.length by simp only [List.length_cons] at hl; omega)
      unfold valN at hv
      omega
  · exact hl
theorem atoi_dec : ∀ (l : List UInt8) (acc : Nat), l.all Wd.digB = true → Lib.decFrom acc l = some (Wd.natFrom acc l)
  | [], _, _ => rfl
  | c :: r, acc, h => by
    simp only [List.all_cons, Bool.and_eq_true] at h
    have hd := (Wd.digB_iff c).1 h.1
    rw [Lib.decFrom, Lib.digitVal, if_pos hd]
    simp only
    rw [atoi_dec r _ h.2, Wd.natFrom_cons]
theorem atoi_nat {l : List UInt8} (h : natB l = true) : Lib.atoi l = some (valN l : Int) := by
  obtain ⟨h1, h2, _⟩ := Wd.natB_parts h
  have h45 := Wd.natB_no h
  match l, h1, h2 with
  | c :: r, _, h2 =>
    have hc := (h45 c (by simp)).1
    have h43 : c ≠ 43 := by
      simp only [List.all_cons, Bool.and_eq_true] at h2
      have := (Wd.digB_iff c).1 h2.1
      intro e; subst e; exact absurd this.1 (by decide)
    unfold Lib.atoi
    simp only
    rw [if_neg (by simpa using hc), if_neg (by simpa using h43)]
    unfold Lib.decNat
    rw [if_neg (by simp), atoi_dec _ _ h2]
    rfl
theorem atoi_is (s : ByteArray) (n : Nat) (h : natB s.data.toList = true) (hn : valN s.data.toList = n) (h9 : n ≤ 1000000000) (w : World) :
    Calls Tryz.prog 39 #[.string s] w fun e w' => e = .returned (.tuple #[.int .i64 (n : Int), .nilIface]) ∧ Ow w w' := by
  have hs := short_val h (by omega)
  rw [ba_len] at hs
  refine (Tryz.strconv_Atoi s n (by omega) (by rw [atoi_nat h, hn]) w).mono fun e w' ⟨h1, t, h2⟩ => ⟨h1, ?_⟩
  rw [h2]
  exact Lib.bytesWorld_below _ _ _
theorem cutM_is (x a b : ByteArray) (f : Bool) (h : Lib.cut x.data.toList [45] = (a.data.toList, b.data.toList, f)) (w : World) (hs : x.size ≤ 9000) (hg : Gl w) :
    Calls Tryz.prog 35 #[.string x, .string ⟨#[45]⟩] w fun e w' => e = .returned (.tuple #[.string a, .string b, .bool f]) ∧ Ow w w' := by
  obtain ⟨m, hm⟩ := hg.max
  refine (Tryz.strings_Cut x ⟨#[45]⟩ m w (by omega) hm).mono fun e1 w1 ⟨h1, h2⟩ => ⟨?_, (Ow.refl w).drawn h2⟩
  rw [h1]
  show Ending.returned (.tuple #[.string ⟨(Lib.cut x.data.toList [45]).1.toArray⟩, .string ⟨(Lib.cut x.data.toList [45]).2.1.toArray⟩, .bool (Lib.cut x.data.toList [45]).2.2]) = _
  rw [h, ba_mk, ba_mk]
end Go.Proofs.YtabopillicdjaaaGreatDoor

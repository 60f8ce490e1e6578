/- The plain laws of chapter 28: scripts and their texts. No program in sight. -/
import Derived.Test.YtaojogaakhidhaaDoorOpPl2
namespace Go.Proofs.YtaojogaakhidhaaDoor.Sc
open Wd (partsL linesE linesS digB)

/-- What List returns: the operations, the line, the error. -/
def lsF : List (List UInt8) → Nat → List OC → List OC × Int × Int
  | [], _, acc => (acc, 0, 0)
  | s :: r, i, acc => if s = [] then lsF r (i + 1) acc else if parE s ≠ 0 then ([], ((i + 1 : Nat) : Int), parE s) else if acc.length = 200 then ([], ((i + 1 : Nat) : Int), 3) else lsF r (i + 1) (acc ++ [parC s])
def listV (t : List UInt8) : List OC × Int × Int := if linesE t ≠ 0 then ([], 0, linesE t) else lsF (linesS t) 0 []
/-- What Text returns: the text, the index, the error. -/
def txF : List OC → Nat → List UInt8 → List UInt8 × Int × Int
  | [], _, acc => (acc, 0, 0)
  | c :: r, i, acc => if chkE c ≠ 0 then ([], (i : Int), chkE c) else txF r (i + 1) (acc ++ lineT c ++ [10])
def textV (l : List OC) : List UInt8 × Int × Int := if 200 < l.length then ([], -1, 3) else txF l 0 []
/-- The text without empty lines: p is the byte ahead. -/
def wantF : UInt8 → List UInt8 → List UInt8
  | _, [] => []
  | p, c :: r => if c ≠ 10 ∨ p ≠ 10 then c :: wantF c r else wantF c r
def ended (L : List (List UInt8)) : List UInt8 := L.flatMap fun s => s ++ [10]

def full (s : List UInt8) : Bool := !s.isEmpty
theorem full_iff {s : List UInt8} : full s = true ↔ s ≠ [] := by cases s <;> simp [full]
theorem no10_bare {l : List UInt8} (h : l.all Wd.bareC = true) : ∀ x ∈ l, x ≠ 10 := by
  intro x hx e
  have := List.all_eq_true.1 h x hx
  subst e
  exact absurd this (by decide)
theorem tx_ok : ∀ (l : List OC) (i : Nat) (acc : List UInt8), (∀ c ∈ l, chkE c = 0) → txF l i acc = (acc ++ ended (l.map lineT), 0, 0)
  | [], _, acc, _ => by simp [txF, ended]
  | c :: r, i, acc, h => by
    rw [txF, if_neg (by rw [h c (by simp)]; decide), tx_ok r (i + 1) _ (fun d hd => h d (by simp [hd]))]
    simp [ended]
theorem tx_inv : ∀ (l : List OC) (i : Nat) (acc : List UInt8), (txF l i acc).2.2 = 0 → ∀ c ∈ l, chkE c = 0
  | [], _, _, _ => by simp
  | c :: r, i, acc, h => by
    rw [txF] at h
    split at h
    · rename_i hc; exact absurd h hc
    · rename_i hc
      intro d hd
      rcases List.mem_cons.1 hd with rfl | hd
      · simpa using hc
      · exact tx_inv r (i + 1) _ h d hd
theorem ls_ok : ∀ (L : List (List UInt8)) (i : Nat) (acc : List OC), (∀ s ∈ L, s ≠ [] → parE s = 0) → acc.length + (L.filter full).length ≤ 200 → lsF L i acc = (acc ++ (L.filter full).map parC, 0, 0)
  | [], _, acc, _, _ => by simp [lsF]
  | s :: r, i, acc, h, hn => by
    rw [lsF]
    by_cases hs : s = []
    · subst hs
      rw [if_pos rfl, ls_ok r (i + 1) acc (fun x hx => h x (by simp [hx])) (by exact hn)]
      rfl
    · have hf : (s :: r).filter full = s :: r.filter full := by rw [List.filter_cons_of_pos (full_iff.2 hs)]
      rw [hf] at hn ⊢
      rw [List.length_cons] at hn
      rw [if_neg hs, if_neg (by rw [h s (by simp) hs]; decide), if_neg (by omega), ls_ok r (i + 1) _ (fun x hx => h x (by simp [hx])) (by rw [List.length_append, List.length_singleton]; omega)]
      simp
theorem ls_inv : ∀ (L : List (List UInt8)) (i : Nat) (acc : List OC), acc.length ≤ 200 → (lsF L i acc).2.2 = 0 → (∀ s ∈ L, s ≠ [] → parE s = 0) ∧ acc.length + (L.filter full).length ≤ 200
  | [], _, acc, ha, _ => by simp [ha]
  | s :: r, i, acc, ha, h => by
    rw [lsF] at h
    by_cases hs : s = []
    · subst hs
      rw [if_pos rfl] at h
      obtain ⟨h1, h2⟩ := ls_inv r (i + 1) acc ha h
      exact ⟨fun x hx hne => by rcases List.mem_cons.1 hx with rfl | hx; exact absurd rfl hne; exact h1 x hx hne, by exact h2⟩
    · rw [if_neg hs] at h
      split at h
      · rename_i hp; exact absurd h hp
      · rename_i hp
        split at h
        · cases h
        · rename_i h200
          obtain ⟨h1, h2⟩ := ls_inv r (i + 1) (acc ++ [parC s]) (by rw [List.length_append, List.length_singleton]; omega) h
          have hf : (s :: r).filter full = s :: r.filter full := by rw [List.filter_cons_of_pos (full_iff.2 hs)]
          refine ⟨fun x hx hne => ?_, ?_⟩
          · rcases List.mem_cons.1 hx with rfl | hx
            · simpa using hp
            · exact h1 x hx hne
          · rw [hf, List.length_cons]
            rw [List.length_append, List.length_singleton] at h2; omega
/-! Lines. -/
theorem parts_ended : ∀ (L : List (List UInt8)), L ≠ [] → (∀ s ∈ L, ∀ x ∈ s, x ≠ 10) → partsL 10 (ended L).dropLast = L
  | [], h, _ => absurd rfl h
  | [s], _, h => by
    have e : ended [s] = s ++ [10] := by simp [ended]
    rw [e, List.dropLast_concat, Wd.parts_none (h s (by simp))]
  | s :: t :: L, _, h => by
    have e : ended (s :: t :: L) = s ++ 10 :: ended (t :: L) := by simp [ended]
    have hne : ended (t :: L) ≠ [] := by simp [ended]
    rw [e, List.dropLast_append_of_ne_nil (by simp), List.dropLast_cons_of_ne_nil hne, Wd.parts_cut _ (h s (by simp)), parts_ended (t :: L) (by simp) (fun x hx => h x (by simp [List.mem_cons.1 hx]))]
theorem ended_last {L : List (List UInt8)} (h : L ≠ []) : (ended L).getLast? = some 10 := by
  obtain ⟨M, s, rfl⟩ : ∃ M s, L = M ++ [s] := ⟨L.dropLast, L.getLast h, (List.dropLast_concat_getLast h).symm⟩
  simp [ended]
theorem ended_parts : ∀ (t : List UInt8), ended (partsL 10 t) = t ++ [10]
  | [] => by simp [partsL, ended]
  | x :: r => by
    have ih := ended_parts r
    rw [partsL]
    split
    · rename_i e
      subst e
      simp only [ended, List.flatMap_cons] at ih ⊢
      rw [ih]; rfl
    · cases hp : partsL 10 r with
      | nil => exact absurd hp (Wd.parts_ne 10 r)
      | cons p ps =>
        rw [hp] at ih
        simp only [ended, List.flatMap_cons] at ih ⊢
        rw [List.cons_append, List.cons_append, ih]; rfl
theorem parts_no : ∀ (t : List UInt8), ∀ s ∈ partsL 10 t, ∀ x ∈ s, x ≠ 10
  | [], s, hs, x, hx => by simp [partsL] at hs; subst hs; simp at hx
  | c :: r, s, hs, x, hx => by
    have ih := parts_no r
    rw [partsL] at hs
    split at hs
    · rcases List.mem_cons.1 hs with rfl | hs
      · simp at hx
      · exact ih s hs x hx
    · rename_i hc
      cases hp : partsL 10 r with
      | nil => exact absurd hp (Wd.parts_ne 10 r)
      | cons p ps =>
        rw [hp] at hs ih
        simp only at hs
        rcases List.mem_cons.1 hs with rfl | hs
        · rcases List.mem_cons.1 hx with rfl | hx
          · exact hc
          · exact ih p (by simp) x hx
        · exact ih s (by simp [hs]) x hx
theorem want_word : ∀ (s t : List UInt8) (p : UInt8), (∀ x ∈ s, x ≠ 10) → s ≠ [] → wantF p (s ++ 10 :: t) = s ++ 10 :: wantF 10 t
  | [], _, _, _, h => absurd rfl h
  | [c], t, p, hs, _ => by
    have hc : c ≠ 10 := hs c (by simp)
    show wantF p (c :: 10 :: t) = c :: 10 :: wantF 10 t
    rw [wantF, if_pos (.inl hc), wantF, if_pos (.inr hc)]
  | c :: d :: s, t, p, hs, _ => by
    have hc : c ≠ 10 := hs c (by simp)
    show wantF p (c :: ((d :: s) ++ 10 :: t)) = c :: ((d :: s) ++ 10 :: wantF 10 t)
    rw [wantF, if_pos (.inl hc), want_word (d :: s) t c (fun x hx => hs x (by simp [List.mem_cons.1 hx])) (by simp)]
theorem want_ended : ∀ (L : List (List UInt8)), (∀ s ∈ L, ∀ x ∈ s, x ≠ 10) → wantF 10 (ended L) = ended (L.filter full)
  | [], _ => rfl
  | s :: L, h => by
    have ih := want_ended L (fun x hx => h x (by simp [hx]))
    have e : ended (s :: L) = s ++ 10 :: ended L := by simp [ended]
    rw [e]
    by_cases hs : s = []
    · subst hs
      rw [List.nil_append, wantF, if_neg (by simp), ih]
      rfl
    · have hf : (s :: L).filter full = s :: L.filter full := by rw [List.filter_cons_of_pos (full_iff.2 hs)]
      rw [want_word s _ 10 (h s (by simp)) hs, ih, hf]
      simp [ended]
theorem line_no10 (c : OC) (h : 1 ≤ c.k ∧ c.k ≤ 11) : (∀ x ∈ lineT c, x ≠ 10) ∧ lineT c ≠ [] := by
  obtain ⟨j, hj, j1, j12⟩ := k_nat h
  have hb := (kw_bare j j12).1
  rw [hj] at hb
  have hne : kw c.k ≠ [] := fun e => by rw [e] at hb; cases hb
  constructor
  · intro x hx
    unfold lineT at hx
    rcases List.mem_append.1 hx with hx | hx
    · simp only [Wd.bareB, Bool.and_eq_true] at hb
      exact no10_bare hb.1 x hx
    · obtain ⟨i, _, hx⟩ := List.mem_flatMap.1 hx
      rcases List.mem_cons.1 hx with rfl | hx
      · decide
      · have := fieldS_bare c i
        simp only [Wd.bareB, Bool.and_eq_true] at this
        exact no10_bare this.1 x hx
  · unfold lineT
    intro e
    exact hne (List.append_eq_nil_iff.1 e).1
theorem line_len {c : OC} (hw : WfC c) (h : chkE c = 0) : (lineT c).length ≤ 58 := by
  obtain ⟨h1, _, h3⟩ := chk_parts h
  obtain ⟨j, hj, j1, j12⟩ := k_nat h1
  obtain ⟨_, b2⟩ := kw_bare j j12
  have hl := kf_len j j12
  rw [hj] at b2 hl
  unfold lineT
  rw [flat_map, List.length_append]
  have := flat_len ((kf c.k).map (fieldS c)) (fun x hx => by obtain ⟨i, hi, rfl⟩ := List.mem_map.1 hx; exact fieldS_short hw (h3 i hi))
  rw [List.length_map] at this
  omega
theorem ended_len : ∀ (L : List (List UInt8)), (∀ s ∈ L, s.length ≤ 58) → (ended L).length ≤ 59 * L.length
  | [], _ => by simp [ended]
  | s :: L, h => by
    have h1 := h s (by simp)
    have h2 := ended_len L (fun x hx => h x (by simp [hx]))
    simp only [ended, List.flatMap_cons, List.length_append, List.length_cons, List.length_nil] at h2 ⊢
    omega
theorem map_self {α : Type} {f : α → α} : ∀ {l : List α}, (∀ x ∈ l, f x = x) → l.map f = l
  | [], _ => rfl
  | a :: l, h => by rw [List.map_cons, h a (by simp), map_self (fun x hx => h x (by simp [hx]))]
theorem filter_all {α : Type} {p : α → Bool} : ∀ {l : List α}, (∀ x ∈ l, p x = true) → l.filter p = l
  | [], _ => rfl
  | a :: l, h => by rw [List.filter_cons_of_pos (h a (by simp)), filter_all (fun x hx => h x (by simp [hx]))]
/-- List of Text are the operations. -/
theorem list_text {l : List OC} (hw : ∀ c ∈ l, WfC c) (h : (textV l).2.2 = 0) : (textV l).1 = ended (l.map lineT) ∧ (textV l).2.1 = 0 ∧ listV (textV l).1 = (l, 0, 0) ∧ (textV l).1.length ≤ 12000 := by
  unfold textV at h ⊢
  split at h
  · cases h
  · rename_i hn
    have hc := tx_inv l 0 [] h
    rw [if_neg hn, tx_ok l 0 [] hc]
    simp only [List.nil_append, true_and]
    have hlen := ended_len (l.map lineT) (fun s hs => by obtain ⟨c, hc', rfl⟩ := List.mem_map.1 hs; exact line_len (hw c hc') (hc c hc'))
    rw [List.length_map] at hlen
    refine ⟨?_, by omega⟩
    by_cases h0 : l = []
    · subst h0; rfl
    · have hne : l.map lineT ≠ [] := by simpa using h0
      have hno : ∀ s ∈ l.map lineT, ∀ x ∈ s, x ≠ 10 := fun s hs => by obtain ⟨c, hc', rfl⟩ := List.mem_map.1 hs; exact (line_no10 c (chk_parts (hc c hc')).1).1
      have hp := parts_ended (l.map lineT) hne hno
      have hlast := ended_last hne
      have hE : linesE (ended (l.map lineT)) = 0 := by
        unfold Wd.linesE
        rw [if_neg (by omega), if_neg (by intro e; rw [e] at hlast; cases hlast), if_neg (by rw [hlast]; simp), hp, List.length_map, if_neg (by omega)]
      have hS : linesS (ended (l.map lineT)) = l.map lineT := by
        unfold Wd.linesS
        rw [if_pos ⟨hE, by intro e; rw [e] at hlast; cases hlast⟩, hp]
      have hf : (l.map lineT).filter full = l.map lineT := filter_all (fun s hs => by obtain ⟨c, hc', rfl⟩ := List.mem_map.1 hs; exact full_iff.2 (line_no10 c (chk_parts (hc c hc')).1).2)
      unfold listV
      rw [if_neg (by rw [hE]; decide), hS, ls_ok _ 0 [] (fun s hs _ => by obtain ⟨c, hc', rfl⟩ := List.mem_map.1 hs; exact (parse_print (hw c hc') (hc c hc')).1) (by rw [hf, List.length_map, List.length_nil]; omega), hf, List.map_map, List.nil_append]
      congr 1
      exact map_self (fun c hc' => (parse_print (hw c hc') (hc c hc')).2)
/-- Text of List is the text without empty lines. -/
theorem text_list {t : List UInt8} (h : (listV t).2.2 = 0) : textV (listV t).1 = (wantF 10 t, 0, 0) ∧ ∀ c ∈ (listV t).1, WfC c := by
  unfold listV at h ⊢
  split at h
  · rename_i he; exact absurd h he
  · rename_i he
    have he : linesE t = 0 := by simpa using he
    rw [if_neg (by rw [he]; decide)]
    obtain ⟨h1, h2⟩ := ls_inv (linesS t) 0 [] (by simp) h
    rw [ls_ok _ 0 [] h1 h2]
    simp only [List.nil_append]
    have hte : ended (linesS t) = t ∧ ∀ s ∈ linesS t, ∀ x ∈ s, x ≠ 10 := by
      unfold Wd.linesS
      by_cases h0 : t = []
      · subst h0; simp [ended]
      · rw [if_pos ⟨he, h0⟩]
        have hl : t.getLast? = some 10 := by
          unfold Wd.linesE at he
          split at he
          · cases he
          · split at he
            · cases he
            · rename_i hg; simpa using hg
        obtain ⟨m, rfl⟩ := List.getLast?_eq_some_iff.1 hl
        rw [List.dropLast_concat]
        exact ⟨ended_parts m, parts_no m⟩
    have hp : ∀ s ∈ (linesS t).filter full, parE s = 0 := fun s hs => by
      have := List.mem_filter.1 hs
      exact h1 s this.1 (full_iff.1 this.2)
    have hmap : ((linesS t).filter full).map (fun s => lineT (parC s)) = (linesS t).filter full := map_self (fun s hs => (print_parse (hp s hs)).2.1)
    refine ⟨?_, fun c hc => ?_⟩
    · unfold textV
      rw [if_neg (by rw [List.length_map]; rw [List.length_nil] at h2; omega), tx_ok _ 0 [] (fun c hc => by obtain ⟨s, hs, rfl⟩ := List.mem_map.1 hc; exact (print_parse (hp s hs)).1), List.map_map]
      have e : ((linesS t).filter full).map (lineT ∘ parC) = (linesS t).filter full := hmap
      rw [e, List.nil_append, ← want_ended _ hte.2, hte.1]
    · obtain ⟨s, hs, rfl⟩ := List.mem_map.1 hc
      exact (print_parse (hp s hs)).2.2

end Go.Proofs.YtaojogaakhidhaaDoor.Sc

/- The reference of chapter 28: ParseAnswer. -/
import Derived.Test.YtaojogaakhidhaaDoorOpRAn
import Derived.Test.YtaojogaakhidhaaDoorOpRUn
namespace Go.Proofs.YtaojogaakhidhaaDoor
open Go.RowKit
open Sc (OC OA chkE chkA WfC WfA ansT ansS cands hits parA paE paA unhexE unhexN)

theorem Tryd.infoOA : (Tryd.prog.info? 27).map (fun i => (i.zero, i.size, i.bytes)) = some (some (.agg #[.int .i64 0, .bool false, .int .u64 0]), 3, 24) := by kernel_rfl
def cellsA (l : List OA) : List Value := l.flatMap fun a => (acells a).toList
theorem cellsA_snoc (l : List OA) (a : OA) : cellsA (l ++ [a]) = cellsA l ++ [.int .i64 a.e, .bool a.is, .int .u64 a.v] := by simp [cellsA, acells]
theorem cellsA_at : ∀ (l : List OA) (i : Nat) (c : OA), l[i]? = some c → ∀ j, j < 3 → (cellsA l)[i * 3 + j]? = (acells c)[j]?
  | [], i, c, h, _, _ => by simp at h
  | d :: l, 0, c, h, j, hj => by
    simp only [List.getElem?_cons_zero, Option.some.injEq] at h
    subst h
    have : cellsA (d :: l) = (acells d).toList ++ cellsA l := by simp [cellsA]
    rw [this, Nat.zero_mul, Nat.zero_add, List.getElem?_append_left (by simpa [acells] using hj), Array.getElem?_toList]
  | d :: l, i + 1, c, h, j, hj => by
    have e : cellsA (d :: l) = (acells d).toList ++ cellsA l := by simp [cellsA]
    have hl : (acells d).toList.length = 3 := rfl
    rw [e, List.getElem?_append_right (by rw [hl]; omega), hl, show (i + 1) * 3 + j - 3 = i * 3 + j by omega]
    exact cellsA_at l i c (by simpa using h) j hj
/-- The candidates, as they are appended. -/
def cand0 (l : List UInt8) : List OA := [⟨0, false, 0⟩, ⟨0, true, 0⟩] ++ (if unhexE l = 0 then [⟨0, false, unhexN l⟩] else [])
def gridP (i : Nat) : List OA := (List.range i).flatMap fun i => (List.range 32).map fun k => ⟨0, false, ((256 * i + k : Nat) : Int)⟩
def gridR (i k : Nat) : List OA := (List.range k).map fun k => ⟨0, false, ((256 * i + k : Nat) : Int)⟩
def errsP (n : Nat) : List OA := (List.range n).map fun n => ⟨((n + 1 : Nat) : Int), false, 0⟩
theorem cands_eq (l : List UInt8) : cands l = cand0 l ++ gridP 32 ++ errsP 999 := by unfold Sc.cands cand0 gridP errsP; rfl
theorem gridP_next (i : Nat) : gridP (i + 1) = gridP i ++ gridR i 32 := by unfold gridP gridR; rw [List.range_succ (n := i), List.flatMap_append, List.flatMap_singleton]
theorem gridR_next (i k : Nat) : gridR i (k + 1) = gridR i k ++ [⟨0, false, 256 * (i : Int) + (k : Int)⟩] := by unfold gridR; rw [List.range_succ (n := k), List.map_append]; simp
theorem errsP_next (n : Nat) : errsP (n + 1) = errsP n ++ [⟨(n : Int) + 1, false, 0⟩] := by unfold errsP; rw [List.range_succ (n := n), List.map_append]; simp
theorem cand0_len (l : List UInt8) : (cand0 l).length ≤ 3 := by unfold cand0; split <;> simp
theorem cells_newA (W : World) (cs : Array Value) (T : TypeId) (n : Nat) (hn : n = W.heap.size) (l : List Value) (h : cs.toList = l) : ∀ (j : Nat) u, l[j]? = some u → (W.alloc (.cells cs T)).cell? ((⟨n, 0, none⟩ : Addr).add j) = some u := by
  subst h hn
  intro j u hu
  have hb := heap_alloc_new W (.cells cs T)
  rw [Lib.add_plain, Nat.zero_add, cell_of_row _ _ j _ _ _ hb]
  rwa [Array.getElem?_toList] at hu
/-- What stands while the candidates are appended. -/
structure AB (w : World) (c : OC) (v : Value) (acc : List OA) (W : World) : Prop where
  pb : PB w c W
  row : W.ownsRow (w.heap.size + 2) 27 3 v acc.length (cellsA acc)
theorem AB.then {w : World} {c : OC} {v : Value} {acc : List OA} {W W' : World} (h : AB w c v acc W) (hb : Ow W W') : AB w c v acc W' := ⟨h.pb.then hb, own_then h.row hb⟩
theorem AB.size {w : World} {c : OC} {v : Value} {acc : List OA} {W : World} (h : AB w c v acc W) : w.heap.size + 2 ≤ W.heap.size := h.pb.res.lt
theorem AB.app {w : World} {c : OC} {v : Value} {acc acc' : List OA} {W : World} (h : AB w c v acc W) (o : Obj) {v' : Value} {W4 : World} {m : Nat} {news : List Value} (h4 : W4.ownsRow (w.heap.size + 2) 27 3 v' (acc.length + m) (cellsA acc ++ news)) (hg : (W.alloc o).grownBy W4 v.ownBlock) (hc : cellsA acc' = cellsA acc ++ news) (hl : acc'.length = acc.length + m) : AB w c v' acc' W4 := by
  have h1 := h.then ((Ow.refl W).alloc o)
  have hne : ∀ b, b < w.heap.size + 2 → v.ownBlock ≠ some b := fun b hb e => by have := (h.row.lt b e).1; omega
  exact ⟨⟨h1.pb.ow.grow1 h1.row (by omega) h1.size hg, h1.pb.box.grown hg (hne _ (by omega)), h1.pb.res.grown hg (hne _ (by omega))⟩, by rw [hc, hl]; exact h4⟩
/-- Answers that lie in memory. -/
structure AnsAt (w : World) (g o : Nat) (a : OA) : Prop where
  c0 : w.cell? ⟨g, o, none⟩ = some (.int .i64 a.e)
  c1 : w.cell? ⟨g, o + 1, none⟩ = some (.bool a.is)
  c2 : w.cell? ⟨g, o + 2, none⟩ = some (.int .u64 a.v)
theorem AnsAt.then {w w' : World} {g o : Nat} {c : OA} (h : AnsAt w g o c) (hb : Ow w w') : AnsAt w' g o c := by
  have hl := lt_of_cell h.c0
  have k : ∀ {j : Nat} {v : Value}, w.cell? ⟨g, j, none⟩ = some v → w'.cell? ⟨g, j, none⟩ = some v := fun {j v} e => (hb.cell (p := ⟨g, j, none⟩) hl).trans e
  exact ⟨k h.c0, k h.c1, k h.c2⟩
theorem AB.lies {w : World} {c : OC} {v : Value} {acc : List OA} {W : World} (h : AB w c v acc W) (hn : acc ≠ []) : ∃ g off cap, v = .slice (some ⟨g, off, none⟩) acc.length cap ∧ g < W.heap.size ∧ ∀ (i : Nat) a, acc[i]? = some a → AnsAt W g (off + i * 3) a := by
  rcases Joins.ownsRow_forms h.row with ⟨rfl, h1⟩ | ⟨g, cap, rfl⟩
  · exact absurd (List.length_eq_zero_iff.1 h1) hn
  · refine ⟨g, 0, cap, rfl, (h.row.lt g rfl).2, fun i a ha => ?_⟩
    have hi := (List.getElem?_eq_some_iff.1 ha).1
    have k : ∀ j, j < 3 → W.cell? ⟨g, 0 + i * 3 + j, none⟩ = (acells a)[j]? := fun j hj => by
      rw [Nat.zero_add, h.row.cellAt (i * 3 + j) (by omega)]
      exact cellsA_at acc i a ha j hj
    exact ⟨k 0 (by omega), k 1 (by omega), k 2 (by omega)⟩
/-- The result, read out of its block. -/
theorem roa_ret {P : Ending → World → Prop} {W : World} {u : Array Value} {R : Nat} {c : OA} {m : Int} (hR : Bx R (acells c) 27 W)
    (h2 : u[4]? = some (.pointer (some ⟨R, 0, none⟩))) (h3 : u[5]? = some (.int .i64 m)) (hq : P (.returned (.tuple #[.agg (acells c), .int .i64 m])) W) :
    bodyPost Tryd.prog Tryd.f8 P Exit.ret { tmps := u, defers := [] } W := by
  refine bodyPost_ret (v := .tuple #[.agg (acells c), .int .i64 m]) ?_ rfl hq
  have hp : u.getD 4 undef = .pointer (some ⟨R, 0, none⟩) := by simp [h2]
  have hm : u.getD 5 undef = .int .i64 m := by simp [h3]
  rw [results_cell_tmp Tryd.results8, hp, hm]
  have hl := run_loadVar_row (P := Tryd.prog) W R 27 27 (acells c) (0, 0) _ hR Tryd.underlying27 rfl (by kernel_rfl)
  simp only [asAddr, Sem.run_pure, Result.andThen_ok, hl]
/-- Between the operations of the drawn region: an operation's box and an answer in the list. -/
structure SQ (W : World) (B : Nat) (c : OC) (g o : Nat) (a : OA) (w' : World) : Prop where
  ow : Ow W w'
  box : Bx B (ocells c) 24 W
  ans : AnsAt W g o a
theorem SQ.all {W : World} {B : Nat} {k a b f p r v : Int} {g o : Nat} {e : Int} {i : Bool} {x : Int} {w' : World} (h : SQ W B ⟨k, a, b, f, p, r, v⟩ g o ⟨e, i, x⟩ w') : SQ W B ⟨k, a, b, f, p, r, v⟩ g o ⟨e, i, x⟩ w' ∧ w'.cell? ⟨B, 0, none⟩ = some (.int .i64 k) ∧ w'.cell? ⟨B, 1, none⟩ = some (.int .i64 a) ∧ w'.cell? ⟨B, 2, none⟩ = some (.int .i64 b) ∧ w'.cell? ⟨B, 3, none⟩ = some (.int .i64 f) ∧ w'.cell? ⟨B, 4, none⟩ = some (.int .i64 p) ∧ w'.cell? ⟨B, 5, none⟩ = some (.int .i64 r) ∧ w'.cell? ⟨B, 6, none⟩ = some (.int .u64 v) ∧ w'.cell? ⟨g, o, none⟩ = some (.int .i64 e) ∧ w'.cell? ⟨g, o + 1, none⟩ = some (.bool i) ∧ w'.cell? ⟨g, o + 2, none⟩ = some (.int .u64 x) :=
  have b := h.box.then h.ow
  have q := h.ans.then h.ow
  ⟨h, b.at rfl, b.at rfl, b.at rfl, b.at rfl, b.at rfl, b.at rfl, b.at rfl, q.c0, q.c1, q.c2⟩
theorem SQ.drewA {W : World} {B : Nat} {c : OC} {g o : Nat} {a : OA} {w' : World} {q : Prop} (h : SQ W B c g o a w' ∧ q) : SQ W B c g o a w'.drew := ⟨h.1.ow.drew, h.1.box, h.1.ans⟩
theorem SQ.drewB {W : World} {B : Nat} {c : OC} {g o : Nat} {a : OA} {w' : World} (h : SQ W B c g o a w') : SQ W B c g o a w'.drew := ⟨h.ow.drew, h.box, h.ans⟩
theorem SQ.after {W : World} {B : Nat} {c : OC} {g o : Nat} {a : OA} {w' w1 : World} {q : Prop} (hb : Ow w' w1) (h : SQ W B c g o a w' ∧ q) : SQ W B c g o a w1 := ⟨h.1.ow.then hb, h.1.box, h.1.ans⟩
theorem SQ.fin {W : World} {B : Nat} {c : OC} {g o : Nat} {a : OA} {w' : World} {q : Prop} (h : SQ W B c g o a w' ∧ q) : Ow W w' := h.1.ow
theorem find_at {l : List OA} {p : OA → Bool} {i : Nat} {a : OA} (h : ∀ x ∈ l.take i, p x = false) (ha : l[i]? = some a) (hp : p a = true) : l.find? p = some a := by
  obtain ⟨hi, e⟩ := List.getElem?_eq_some_iff.1 ha
  have hl : l = l.take i ++ a :: l.drop (i + 1) := by rw [← e, ← List.drop_eq_getElem_cons hi, List.take_append_drop]
  rw [hl, List.find?_append, List.find?_eq_none.2 (fun x hx => by rw [h x hx]; simp), Option.none_or, List.find?_cons_of_pos hp]
theorem find_no {l : List OA} {p : OA → Bool} {i : Nat} (h : ∀ x ∈ l.take i, p x = false) (hi : l.length ≤ i) : l.find? p = none := by
  rw [List.take_of_length_le hi] at h
  exact List.find?_eq_none.2 (fun x hx => by rw [h x hx]; simp)
theorem take_more {l : List OA} {p : OA → Bool} {i : Nat} {a : OA} (h : ∀ x ∈ l.take i, p x = false) (ha : l[i]? = some a) (hp : p a = false) : ∀ x ∈ l.take (i + 1), p x = false := by
  obtain ⟨hi, e⟩ := List.getElem?_eq_some_iff.1 ha
  intro x hx
  rw [List.take_succ_eq_append_getElem hi, List.mem_append, List.mem_singleton] at hx
  rcases hx with hx | rfl
  · exact h x hx
  · rw [e]; exact hp
set_option maxRecDepth 100000 in
set_option maxHeartbeats 4000000 in
theorem rpa_bad (k a b f p r v : Int) (s : ByteArray) (m : Int) (w : World) (hc : chkE ⟨k, a, b, f, p, r, v⟩ = m) (hm : m ≠ 0) :
    Calls Tryd.prog 8 #[.agg (ocells ⟨k, a, b, f, p, r, v⟩), .string s] w fun o w' => o = .returned (.tuple #[.agg (acells (paA ⟨k, a, b, f, p, r, v⟩ s.data.toList)), .int .i64 (paE ⟨k, a, b, f, p, r, v⟩ s.data.toList)]) ∧ Ow w w' := by
  have HE := Lib.hid (paE_bad (l := s.data.toList) (by rw [hc]; exact hm))
  have HC := Lib.hid (fun W => rchk_any ⟨k, a, b, f, p, r, v⟩ m hc W)
  have HM := Lib.hid hc
  have hb : (m == 0) = false := beq_eq_false_iff_ne.2 hm
  clear hc hm
  unfold ocells at HC ⊢
  go_enter Tryd.func8, Tryd.ntmps8
  go_wp2_with fail
  (go_at_call 22; refine (HC.out _).mono ?_; rintro e w1 ⟨rfl, hb1⟩)
  have HP := Lib.hid (PB.start w ⟨k, a, b, f, p, r, v⟩ w1 hb1)
  have l1 := HP.out.box.lt
  have l2 := HP.out.res.lt
  clear hb1
  go_wp2_with (refine wpList_store_rowOf rfl 27 (.tmp 4) (.tmp 19) rfl (w.heap.size + 1) (by kernel_rfl) (by kernel_rfl) 27 _ HP.out.res (by kernel_rfl) (by kernel_rfl) (by kernel_rfl) ?_)
  refine roa_ret (c := zeroA) (setRow_heap _ _ _ _ _ _ HP.out.res) rfl rfl ?_
  rw [HE.out.1, HE.out.2, HM.out]
  exact ⟨rfl, HP.out.ow.row (by omega) _⟩
set_option maxRecDepth 100000 in
set_option maxHeartbeats 16000000 in
theorem rpa_no (k a b f p r v : Int) (s : ByteArray) (n m : Int) (w : World) (hs : s.size ≤ 9000) (hc : chkE ⟨k, a, b, f, p, r, v⟩ = 0) (hn : unhexN s.data.toList = n) (hm : unhexE s.data.toList = m) (hm0 : m ≠ 0) :
    Calls Tryd.prog 8 #[.agg (ocells ⟨k, a, b, f, p, r, v⟩), .string s] w fun o w' => o = .returned (.tuple #[.agg (acells (paA ⟨k, a, b, f, p, r, v⟩ s.data.toList)), .int .i64 (paE ⟨k, a, b, f, p, r, v⟩ s.data.toList)]) ∧ Ow w w' := by
  have HK := Lib.hid hc
  have HC := Lib.hid (fun W => rchk_any ⟨k, a, b, f, p, r, v⟩ 0 hc W)
  have HUh := Lib.hid (fun W => runhex_is s n m hn hm W hs)
  obtain ⟨acc0, hacc⟩ : ∃ acc0, acc0 = cand0 s.data.toList := ⟨_, rfl⟩
  have hal0 : acc0.length ≤ 3 := by rw [hacc]; exact cand0_len _
  have HQ0 := Lib.hid hacc
  have HQ1 : Hid ([⟨0, false, 0⟩, ⟨0, true, 0⟩] = acc0) := by rw [Hid, hacc, cand0, if_neg (by rw [hm]; exact hm0)]; rfl
  have hb0 : (m == 0) = false := beq_eq_false_iff_ne.2 hm0
  clear hm0
  clear hc hn hm hacc hs
  obtain ⟨i0, hi0, hz0, hz1, hz2⟩ := info_parts Tryd.infoOA
  unfold ocells at HC ⊢
  go_enter Tryd.func8, Tryd.ntmps8
  go_wp2_with fail
  (go_at_call 22; refine (HC.out _).mono ?_; rintro e w1 ⟨rfl, hb1⟩)
  have HP0 := Lib.hid (PB.start w ⟨k, a, b, f, p, r, v⟩ w1 hb1)
  have l1 := HP0.out.box.lt
  have l2 := HP0.out.res.lt
  clear hb1
  go_wp2_with (at_builtin; refine wpList_append_own _ rfl _ _ 50 rfl (w.heap.size + 2) 27 i0 (.agg #[.int .i64 0, .bool false, .int .u64 0]) 3 24 Tryd.underlying50 hi0 hz0 hz1 hz2 rfl (by decide) _ 0 [] rfl (World.ownsRow_nil _ _ _ _) ⟨w1.heap.size, 0, none⟩ 2 2 [.int .i64 0, .bool false, .int .u64 0, .int .i64 0, .bool true, .int .u64 0] rfl rfl (cells_newA w1 #[.int .i64 0, .bool false, .int .u64 0, .int .i64 0, .bool true, .int .u64 0] 27 w1.heap.size rfl _ rfl) (by simp [Value.oneCell']) (by unfold maxLen; omega) (by omega) (by simp; omega) ?_; intro v4 w4 hown4 hgrow4 hnil4)
  have HA4 : Hid (AB w ⟨k, a, b, f, p, r, v⟩ v4 [⟨0, false, 0⟩, ⟨0, true, 0⟩] w4) := AB.app (acc := []) (v := .slice none 0 0) ⟨HP0.out, World.ownsRow_nil _ _ _ _⟩ _ hown4 hgrow4 rfl rfl
  clear hown4 hgrow4 hnil4 HP0 l1 l2
  go_wp2_with fail
  (go_at_call 23; refine (HUh.out _).mono ?_; rintro e w5 ⟨rfl, hb5⟩)
  have HA5 := Lib.hid (HA4.out.then hb5)
  clear hb5 HA4
  have hsz5 := HA5.out.size
  have HA0 : Hid (AB w ⟨k, a, b, f, p, r, v⟩ v4 acc0 w5) := by
    rw [Hid, ← HQ1.out]
    exact HA5.out
  clear HA5 HQ1
  go_wp2
  go_loopw [7, 9] (fun vx ix wr => ∃ (i : Nat) (acc : List OA), i ≤ 32 ∧ ix = .int .i64 i ∧ acc.length ≤ 3 + 32 * i ∧ Hid (acc = acc0 ++ gridP i) ∧ Hid (AB w ⟨k, a, b, f, p, r, v⟩ vx acc wr)) (fun _ ix _ => 32 - (intOf ix).toNat)
  case atStart => exact ⟨0, acc0, by omega, rfl, by omega, by simp [Hid, gridP], HA0⟩
  case round =>
    obtain ⟨i, acc, hi, rfl, hal, HQ, HA⟩ := hrel
    clear HA0
    by_cases hlt : i < 32
    · have e1 : (i : Int) ≤ 31 := by omega
      go_wp2
      go_loopw [7, 10] (fun vx kx wr => ∃ (q : Nat) (acc : List OA), q ≤ 32 ∧ kx = .int .i64 q ∧ acc.length ≤ 3 + 32 * i + q ∧ Hid (acc = acc0 ++ gridP i ++ gridR i q) ∧ Hid (AB w ⟨k, a, b, f, p, r, v⟩ vx acc wr)) (fun _ kx _ => 32 - (intOf kx).toNat)
      case atStart => exact ⟨0, acc, by omega, rfl, by omega, by rw [Hid, HQ.out]; simp [gridR], HA⟩
      case round =>
        clear HA HQ hal acc
        obtain ⟨q, acc, hq, rfl, hal, HQ, HA⟩ := hrel
        have hszr := HA.out.size
        by_cases hlq : q < 32
        · have e2 : (q : Int) ≤ 31 := by omega
          have w1 : IntKind.u64.wrap (256 * (i : Int) + (q : Int)) = 256 * (i : Int) + (q : Int) := IntWalk.u64_in _ (by omega)
          go_wp2_with (at_builtin; refine wpList_append_own _ rfl _ _ 50 rfl (w.heap.size + 2) 27 i0 (.agg #[.int .i64 0, .bool false, .int .u64 0]) 3 24 Tryd.underlying50 hi0 hz0 hz1 hz2 rfl (by decide) _ acc.length (cellsA acc) rfl (own_then HA.out.row ((Ow.refl _).alloc _)) ⟨wr.heap.size, 0, none⟩ 1 1 [.int .i64 0, .bool false, .int .u64 (256 * (i : Int) + (q : Int))] rfl rfl (cells_newA wr #[.int .i64 0, .bool false, .int .u64 (256 * (i : Int) + (q : Int))] 27 wr.heap.size rfl _ rfl) (by simp [Value.oneCell']) (by unfold maxLen; omega) (by omega) (by simp; omega) ?_; intro v4 w4 hown4 hgrow4 hnil4)
          have HN : Hid (AB w ⟨k, a, b, f, p, r, v⟩ v4 (acc ++ [⟨0, false, 256 * (i : Int) + (q : Int)⟩]) w4) := HA.out.app _ hown4 hgrow4 (cellsA_snoc _ _) (by simp)
          have HNq : Hid (acc ++ [⟨0, false, 256 * (i : Int) + (q : Int)⟩] = acc0 ++ gridP i ++ gridR i (q + 1)) := by rw [Hid, gridR_next, ← List.append_assoc, ← HQ.out]
          clear hown4 hgrow4 hnil4
          go_roundw
          case rel => exact ⟨q + 1, acc ++ [⟨0, false, 256 * (i : Int) + (q : Int)⟩], by omega, by go_num, by simp; omega, HNq, HN⟩
          case measure => simp [intOf]; omega
        · have e2 : ¬ (q : Int) ≤ 31 := by omega
          obtain rfl : q = 32 := by omega
          have HNq : Hid (acc = acc0 ++ gridP (i + 1)) := by rw [Hid, gridP_next, ← List.append_assoc]; exact HQ.out
          go_wp2
          go_roundw
          case rel => exact ⟨i + 1, acc, by omega, by go_num, by omega, HNq, HA⟩
          case measure => simp [intOf]; omega
    · have e1 : ¬ (i : Int) ≤ 31 := by omega
      obtain rfl : i = 32 := by omega
      clear hi hlt
      go_wp2
      go_loopw [7, 11] (fun vx nx wr => ∃ (n : Nat) (acc : List OA), n ≤ 999 ∧ nx = .int .i64 ((n : Int) + 1) ∧ acc.length ≤ 1027 + n ∧ Hid (acc = acc0 ++ gridP 32 ++ errsP n) ∧ Hid (AB w ⟨k, a, b, f, p, r, v⟩ vx acc wr)) (fun _ nx _ => 1000 - (intOf nx).toNat)
      case atStart => exact ⟨0, acc, by omega, by go_num, by omega, by rw [Hid, HQ.out]; simp [errsP], HA⟩
      case round =>
        clear HA HQ hal acc e1
        obtain ⟨n, acc, hn, rfl, hal, HQ, HA⟩ := hrel
        have hszr := HA.out.size
        by_cases hln : n < 999
        · have e2 : (n : Int) + 1 ≤ 999 := by omega
          go_wp2_with (at_builtin; refine wpList_append_own _ rfl _ _ 50 rfl (w.heap.size + 2) 27 i0 (.agg #[.int .i64 0, .bool false, .int .u64 0]) 3 24 Tryd.underlying50 hi0 hz0 hz1 hz2 rfl (by decide) _ acc.length (cellsA acc) rfl (own_then HA.out.row ((Ow.refl _).alloc _)) ⟨wr.heap.size, 0, none⟩ 1 1 [.int .i64 ((n : Int) + 1), .bool false, .int .u64 0] rfl rfl (cells_newA wr #[.int .i64 ((n : Int) + 1), .bool false, .int .u64 0] 27 wr.heap.size rfl _ rfl) (by simp [Value.oneCell']) (by unfold maxLen; omega) (by omega) (by simp; omega) ?_; intro v4 w4 hown4 hgrow4 hnil4)
          have HN : Hid (AB w ⟨k, a, b, f, p, r, v⟩ v4 (acc ++ [⟨(n : Int) + 1, false, 0⟩]) w4) := HA.out.app _ hown4 hgrow4 (cellsA_snoc _ _) (by simp)
          have HNq : Hid (acc ++ [⟨(n : Int) + 1, false, 0⟩] = acc0 ++ gridP 32 ++ errsP (n + 1)) := by rw [Hid, errsP_next, ← List.append_assoc, ← HQ.out]
          clear hown4 hgrow4 hnil4
          go_roundw
          case rel => exact ⟨n + 1, acc ++ [⟨(n : Int) + 1, false, 0⟩], by omega, by go_num, by simp; omega, HNq, HN⟩
          case measure => simp [intOf]; omega
        · have e2 : ¬ (n : Int) + 1 ≤ 999 := by omega
          obtain rfl : n = 999 := by omega
          have HCa : Hid (acc = cands s.data.toList) := by rw [Hid, cands_eq, ← HQ0.out]; exact HQ.out
          have hne : acc ≠ [] := by rw [HCa.out]; unfold Sc.cands; simp
          obtain ⟨g, off, cap, rfl, hgl, hcl⟩ := HA.out.lies hne
          have HCl := Lib.hid hcl
          have HPb := Lib.hid HA.out.pb
          clear hcl hne hn hln HQ HA
          go_wp2
          generalize hW6 : wr = w6 at *
          clear hW6
          go_loopw [12] (fun ix wr => ∃ i : Nat, i ≤ acc.length ∧ ix = .int .i64 i ∧ Hid (PB w ⟨k, a, b, f, p, r, v⟩ wr) ∧ Hid (Ow w6 wr) ∧ Hid (∀ x ∈ acc.take i, hits ⟨k, a, b, f, p, r, v⟩ s.data.toList x = false)) (fun ix _ => acc.length - (intOf ix).toNat)
          case atStart => exact ⟨0, by omega, rfl, HPb, Ow.refl _, by simp [Hid]⟩
          case round =>
            clear HPb
            obtain ⟨i, hi, rfl, HP, HO, HH⟩ := hrel
            by_cases hlt : i < acc.length
            · obtain ⟨x, hx⟩ : ∃ x, acc[i]? = some x := ⟨acc[i], List.getElem?_eq_getElem hlt⟩
              have hq := (HCl.out i x hx).then HO.out
              have HWx : Hid (WfA x) := Sc.cands_wf (by rw [← HCa.out]; exact List.mem_of_getElem? hx)
              obtain ⟨u, hu⟩ : ∃ u : ByteArray, u.data.toList = ansS ⟨k, a, b, f, p, r, v⟩ x := ⟨⟨(ansS ⟨k, a, b, f, p, r, v⟩ x).toArray⟩, rfl⟩
              obtain ⟨m, hm⟩ : ∃ m, chkA ⟨k, a, b, f, p, r, v⟩ x = m := ⟨_, rfl⟩
              have HAn := Lib.hid (fun W => rans_any ⟨k, a, b, f, p, r, v⟩ x u m hu hm HWx.out W)
              have HX := Lib.hid hx
              have HU := Lib.hid hu
              have HM := Lib.hid hm
              have el : decide (i < acc.length) = true := by simpa using hlt
              have hlt2 : (i : Int) < (acc.length : Int) := by omega
              have hgr : g < wr.heap.size := Nat.lt_of_lt_of_le hgl HO.out.size
              clear hx hu hm
              obtain ⟨xe, xi, xv⟩ := x
              have hh : SQ wr w.heap.size ⟨k, a, b, f, p, r, v⟩ g (off + i * 3) ⟨xe, xi, xv⟩ wr := ⟨Ow.refl _, HP.out.box, hq⟩
              have hbl := HP.out.box.lt
              have hrl := HP.out.res.lt
              clear hq
              unfold ocells acells at HAn
              go_wp2_with fail
              go_region_held3 (fun w' => SQ wr w.heap.size ⟨k, a, b, f, p, r, v⟩ g (off + i * 3) ⟨xe, xi, xv⟩ w' ∧ w'.cell? ⟨w.heap.size, 0, none⟩ = some (.int .i64 k) ∧ w'.cell? ⟨w.heap.size, 1, none⟩ = some (.int .i64 a) ∧ w'.cell? ⟨w.heap.size, 2, none⟩ = some (.int .i64 b) ∧ w'.cell? ⟨w.heap.size, 3, none⟩ = some (.int .i64 f) ∧ w'.cell? ⟨w.heap.size, 4, none⟩ = some (.int .i64 p) ∧ w'.cell? ⟨w.heap.size, 5, none⟩ = some (.int .i64 r) ∧ w'.cell? ⟨w.heap.size, 6, none⟩ = some (.int .u64 v) ∧ w'.cell? ⟨g, off + i * 3, none⟩ = some (.int .i64 xe) ∧ w'.cell? ⟨g, off + i * 3 + 1, none⟩ = some (.bool xi) ∧ w'.cell? ⟨g, off + i * 3 + 2, none⟩ = some (.int .u64 xv)) (first | assumption | exact SQ.all (by assumption) | exact SQ.all (SQ.drewA (by assumption)) | exact SQ.all (SQ.drewB (by assumption)) | exact SQ.all (SQ.after (by assumption) (by assumption))) (first
                | (go_at_call 6; refine (HAn.out _).mono ?_; rintro e wa ⟨rfl, hba⟩))
              have D : Hid (Ow wr wa) := SQ.fin (by assumption)
              have HP2 := Lib.hid (HP.out.then D.out)
              have HO2 := Lib.hid (HO.out.then D.out)
              clear hh
              obtain ⟨a0, a1, a2⟩ := (HCl.out i _ HX.out).then HO2.out
              simp only at a0 a1 a2
              have hga : g < wa.heap.size := Nat.lt_of_lt_of_le hgr D.out.size
              by_cases hm0 : m = 0
              · subst hm0
                have HU2 : Hid (u.data.toList = ansT ⟨k, a, b, f, p, r, v⟩ ⟨xe, xi, xv⟩) := by rw [Hid, HU.out]; unfold Sc.ansS; rw [if_pos HM.out]
                by_cases hul : u = s
                · subst hul
                  have HF : Hid (parA ⟨k, a, b, f, p, r, v⟩ u.data.toList = some ⟨xe, xi, xv⟩) := by
                    rw [Hid, ← Sc.cands_find HK.out, ← HCa.out]
                    exact find_at HH.out HX.out (by simp only [Sc.hits, HM.out, HU2.out, beq_self_eq_true, decide_true, Bool.and_self])
                  have HE := Lib.hid (paE_ok HK.out HF.out)
                  have HRs := Lib.hid HP2.out.res
                  go_wp2_with (refine wpList_store_rowOf rfl 27 (.tmp 4) (.tmp 89) rfl (w.heap.size + 1) (by kernel_rfl) (by kernel_rfl) 27 _ HRs.out (by kernel_rfl) (by kernel_rfl) (by kernel_rfl) ?_)
                  refine roa_ret (c := ⟨xe, xi, xv⟩) (setRow_heap _ _ _ _ _ _ HRs.out) rfl rfl ?_
                  rw [HE.out.1, HE.out.2]
                  exact ⟨rfl, HP2.out.ow.row (by omega) _⟩
                · have hw1 : (u.toList == s.toList) = false := beq_eq_false_iff_ne.2 (fun e => hul (by rw [ba_toList, ba_toList] at e; exact ba_ext e))
                  have HN : Hid (∀ x ∈ acc.take (i + 1), hits ⟨k, a, b, f, p, r, v⟩ s.data.toList x = false) := take_more HH.out HX.out (by
                    simp only [Sc.hits, ← HU2.out, Bool.and_eq_false_iff]
                    right
                    rw [beq_eq_false_iff_ne]
                    exact fun e => hul (ba_ext e))
                  clear hul
                  go_wp2
                  go_roundw
                  case rel => exact ⟨i + 1, by omega, by go_num, HP2, HO2, HN⟩
                  case measure => simp [intOf]; omega
              · have hb0 : (m == 0) = false := beq_eq_false_iff_ne.2 hm0
                have HN : Hid (∀ x ∈ acc.take (i + 1), hits ⟨k, a, b, f, p, r, v⟩ s.data.toList x = false) := take_more HH.out HX.out (by
                  simp only [Sc.hits, HM.out, Bool.and_eq_false_iff]
                  left
                  exact decide_eq_false hm0)
                clear hm0
                go_wp2
                go_roundw
                case rel => exact ⟨i + 1, by omega, by go_num, HP2, HO2, HN⟩
                case measure => simp [intOf]; omega
            · have el : decide (i < acc.length) = false := by simpa using hlt
              have HF : Hid (parA ⟨k, a, b, f, p, r, v⟩ s.data.toList = none) := by rw [Hid, ← Sc.cands_find HK.out, ← HCa.out]; exact find_no HH.out (by omega)
              have HE := Lib.hid (paE_no HK.out HF.out)
              have HRs := Lib.hid HP.out.res
              have hrl := HP.out.res.lt
              clear hlt
              go_wp2_with (refine wpList_store_rowOf rfl 27 (.tmp 4) (.tmp 90) rfl (w.heap.size + 1) (by kernel_rfl) (by kernel_rfl) 27 _ HRs.out (by kernel_rfl) (by kernel_rfl) (by kernel_rfl) ?_)
              refine roa_ret (c := zeroA) (setRow_heap _ _ _ _ _ _ HRs.out) rfl rfl ?_
              rw [HE.out.1, HE.out.2]
              exact ⟨rfl, HP.out.ow.row (by omega) _⟩
set_option maxRecDepth 100000 in
set_option maxHeartbeats 16000000 in
theorem rpa_yes (k a b f p r v : Int) (s : ByteArray) (n m : Int) (w : World) (hs : s.size ≤ 9000) (hc : chkE ⟨k, a, b, f, p, r, v⟩ = 0) (hn : unhexN s.data.toList = n) (hm : unhexE s.data.toList = m) (hm0 : m = 0) :
    Calls Tryd.prog 8 #[.agg (ocells ⟨k, a, b, f, p, r, v⟩), .string s] w fun o w' => o = .returned (.tuple #[.agg (acells (paA ⟨k, a, b, f, p, r, v⟩ s.data.toList)), .int .i64 (paE ⟨k, a, b, f, p, r, v⟩ s.data.toList)]) ∧ Ow w w' := by
  have HK := Lib.hid hc
  have HC := Lib.hid (fun W => rchk_any ⟨k, a, b, f, p, r, v⟩ 0 hc W)
  have HUh := Lib.hid (fun W => runhex_is s n m hn hm W hs)
  obtain ⟨acc0, hacc⟩ : ∃ acc0, acc0 = cand0 s.data.toList := ⟨_, rfl⟩
  have hal0 : acc0.length ≤ 3 := by rw [hacc]; exact cand0_len _
  have HQ0 := Lib.hid hacc
  have HQ1 : Hid ([⟨0, false, 0⟩, ⟨0, true, 0⟩] ++ [⟨0, false, n⟩] = acc0) := by rw [Hid, hacc, cand0, if_pos (hm.trans hm0), hn]
  subst hm0
  clear hc hn hm hacc hs
  obtain ⟨i0, hi0, hz0, hz1, hz2⟩ := info_parts Tryd.infoOA
  unfold ocells at HC ⊢
  go_enter Tryd.func8, Tryd.ntmps8
  go_wp2_with fail
  (go_at_call 22; refine (HC.out _).mono ?_; rintro e w1 ⟨rfl, hb1⟩)
  have HP0 := Lib.hid (PB.start w ⟨k, a, b, f, p, r, v⟩ w1 hb1)
  have l1 := HP0.out.box.lt
  have l2 := HP0.out.res.lt
  clear hb1
  go_wp2_with (at_builtin; refine wpList_append_own _ rfl _ _ 50 rfl (w.heap.size + 2) 27 i0 (.agg #[.int .i64 0, .bool false, .int .u64 0]) 3 24 Tryd.underlying50 hi0 hz0 hz1 hz2 rfl (by decide) _ 0 [] rfl (World.ownsRow_nil _ _ _ _) ⟨w1.heap.size, 0, none⟩ 2 2 [.int .i64 0, .bool false, .int .u64 0, .int .i64 0, .bool true, .int .u64 0] rfl rfl (cells_newA w1 #[.int .i64 0, .bool false, .int .u64 0, .int .i64 0, .bool true, .int .u64 0] 27 w1.heap.size rfl _ rfl) (by simp [Value.oneCell']) (by unfold maxLen; omega) (by omega) (by simp; omega) ?_; intro v4 w4 hown4 hgrow4 hnil4)
  have HA4 : Hid (AB w ⟨k, a, b, f, p, r, v⟩ v4 [⟨0, false, 0⟩, ⟨0, true, 0⟩] w4) := AB.app (acc := []) (v := .slice none 0 0) ⟨HP0.out, World.ownsRow_nil _ _ _ _⟩ _ hown4 hgrow4 rfl rfl
  clear hown4 hgrow4 hnil4 HP0 l1 l2
  go_wp2_with fail
  (go_at_call 23; refine (HUh.out _).mono ?_; rintro e w5 ⟨rfl, hb5⟩)
  have HA5 := Lib.hid (HA4.out.then hb5)
  clear hb5 HA4
  have hsz5 := HA5.out.size
  go_wp2_with (at_builtin; refine wpList_append_own _ rfl _ _ 50 rfl (w.heap.size + 2) 27 i0 (.agg #[.int .i64 0, .bool false, .int .u64 0]) 3 24 Tryd.underlying50 hi0 hz0 hz1 hz2 rfl (by decide) _ 2 (cellsA [⟨0, false, 0⟩, ⟨0, true, 0⟩]) rfl (own_then HA5.out.row ((Ow.refl _).alloc _)) ⟨w5.heap.size, 0, none⟩ 1 1 [.int .i64 0, .bool false, .int .u64 n] rfl rfl (cells_newA w5 #[.int .i64 0, .bool false, .int .u64 n] 27 w5.heap.size rfl _ rfl) (by simp [Value.oneCell']) (by unfold maxLen; omega) (by omega) (by simp; omega) ?_; intro v4 w4 hown4 hgrow4 hnil4)
  have HA0 : Hid (AB w ⟨k, a, b, f, p, r, v⟩ v4 acc0 w4) := by
    rw [Hid, ← HQ1.out]
    exact HA5.out.app _ hown4 hgrow4 (cellsA_snoc _ _) rfl
  clear hown4 hgrow4 hnil4 HA5 HQ1
  go_wp2
  go_loopw [7, 9] (fun vx ix wr => ∃ (i : Nat) (acc : List OA), i ≤ 32 ∧ ix = .int .i64 i ∧ acc.length ≤ 3 + 32 * i ∧ Hid (acc = acc0 ++ gridP i) ∧ Hid (AB w ⟨k, a, b, f, p, r, v⟩ vx acc wr)) (fun _ ix _ => 32 - (intOf ix).toNat)
  case atStart => exact ⟨0, acc0, by omega, rfl, by omega, by simp [Hid, gridP], HA0⟩
  case round =>
    obtain ⟨i, acc, hi, rfl, hal, HQ, HA⟩ := hrel
    clear HA0
    by_cases hlt : i < 32
    · have e1 : (i : Int) ≤ 31 := by omega
      go_wp2
      go_loopw [7, 10] (fun vx kx wr => ∃ (q : Nat) (acc : List OA), q ≤ 32 ∧ kx = .int .i64 q ∧ acc.length ≤ 3 + 32 * i + q ∧ Hid (acc = acc0 ++ gridP i ++ gridR i q) ∧ Hid (AB w ⟨k, a, b, f, p, r, v⟩ vx acc wr)) (fun _ kx _ => 32 - (intOf kx).toNat)
      case atStart => exact ⟨0, acc, by omega, rfl, by omega, by rw [Hid, HQ.out]; simp [gridR], HA⟩
      case round =>
        clear HA HQ hal acc
        obtain ⟨q, acc, hq, rfl, hal, HQ, HA⟩ := hrel
        have hszr := HA.out.size
        by_cases hlq : q < 32
        · have e2 : (q : Int) ≤ 31 := by omega
          have w1 : IntKind.u64.wrap (256 * (i : Int) + (q : Int)) = 256 * (i : Int) + (q : Int) := IntWalk.u64_in _ (by omega)
          go_wp2_with (at_builtin; refine wpList_append_own _ rfl _ _ 50 rfl (w.heap.size + 2) 27 i0 (.agg #[.int .i64 0, .bool false, .int .u64 0]) 3 24 Tryd.underlying50 hi0 hz0 hz1 hz2 rfl (by decide) _ acc.length (cellsA acc) rfl (own_then HA.out.row ((Ow.refl _).alloc _)) ⟨wr.heap.size, 0, none⟩ 1 1 [.int .i64 0, .bool false, .int .u64 (256 * (i : Int) + (q : Int))] rfl rfl (cells_newA wr #[.int .i64 0, .bool false, .int .u64 (256 * (i : Int) + (q : Int))] 27 wr.heap.size rfl _ rfl) (by simp [Value.oneCell']) (by unfold maxLen; omega) (by omega) (by simp; omega) ?_; intro v4 w4 hown4 hgrow4 hnil4)
          have HN : Hid (AB w ⟨k, a, b, f, p, r, v⟩ v4 (acc ++ [⟨0, false, 256 * (i : Int) + (q : Int)⟩]) w4) := HA.out.app _ hown4 hgrow4 (cellsA_snoc _ _) (by simp)
          have HNq : Hid (acc ++ [⟨0, false, 256 * (i : Int) + (q : Int)⟩] = acc0 ++ gridP i ++ gridR i (q + 1)) := by rw [Hid, gridR_next, ← List.append_assoc, ← HQ.out]
          clear hown4 hgrow4 hnil4
          go_roundw
          case rel => exact ⟨q + 1, acc ++ [⟨0, false, 256 * (i : Int) + (q : Int)⟩], by omega, by go_num, by simp; omega, HNq, HN⟩
          case measure => simp [intOf]; omega
        · have e2 : ¬ (q : Int) ≤ 31 := by omega
          obtain rfl : q = 32 := by omega
          have HNq : Hid (acc = acc0 ++ gridP (i + 1)) := by rw [Hid, gridP_next, ← List.append_assoc]; exact HQ.out
          go_wp2
          go_roundw
          case rel => exact ⟨i + 1, acc, by omega, by go_num, by omega, HNq, HA⟩
          case measure => simp [intOf]; omega
    · have e1 : ¬ (i : Int) ≤ 31 := by omega
      obtain rfl : i = 32 := by omega
      clear hi hlt
      go_wp2
      go_loopw [7, 11] (fun vx nx wr => ∃ (n : Nat) (acc : List OA), n ≤ 999 ∧ nx = .int .i64 ((n : Int) + 1) ∧ acc.length ≤ 1027 + n ∧ Hid (acc = acc0 ++ gridP 32 ++ errsP n) ∧ Hid (AB w ⟨k, a, b, f, p, r, v⟩ vx acc wr)) (fun _ nx _ => 1000 - (intOf nx).toNat)
      case atStart => exact ⟨0, acc, by omega, by go_num, by omega, by rw [Hid, HQ.out]; simp [errsP], HA⟩
      case round =>
        clear HA HQ hal acc e1
        obtain ⟨n, acc, hn, rfl, hal, HQ, HA⟩ := hrel
        have hszr := HA.out.size
        by_cases hln : n < 999
        · have e2 : (n : Int) + 1 ≤ 999 := by omega
          go_wp2_with (at_builtin; refine wpList_append_own _ rfl _ _ 50 rfl (w.heap.size + 2) 27 i0 (.agg #[.int .i64 0, .bool false, .int .u64 0]) 3 24 Tryd.underlying50 hi0 hz0 hz1 hz2 rfl (by decide) _ acc.length (cellsA acc) rfl (own_then HA.out.row ((Ow.refl _).alloc _)) ⟨wr.heap.size, 0, none⟩ 1 1 [.int .i64 ((n : Int) + 1), .bool false, .int .u64 0] rfl rfl (cells_newA wr #[.int .i64 ((n : Int) + 1), .bool false, .int .u64 0] 27 wr.heap.size rfl _ rfl) (by simp [Value.oneCell']) (by unfold maxLen; omega) (by omega) (by simp; omega) ?_; intro v4 w4 hown4 hgrow4 hnil4)
          have HN : Hid (AB w ⟨k, a, b, f, p, r, v⟩ v4 (acc ++ [⟨(n : Int) + 1, false, 0⟩]) w4) := HA.out.app _ hown4 hgrow4 (cellsA_snoc _ _) (by simp)
          have HNq : Hid (acc ++ [⟨(n : Int) + 1, false, 0⟩] = acc0 ++ gridP 32 ++ errsP (n + 1)) := by rw [Hid, errsP_next, ← List.append_assoc, ← HQ.out]
          clear hown4 hgrow4 hnil4
          go_roundw
          case rel => exact ⟨n + 1, acc ++ [⟨(n : Int) + 1, false, 0⟩], by omega, by go_num, by simp; omega, HNq, HN⟩
          case measure => simp [intOf]; omega
        · have e2 : ¬ (n : Int) + 1 ≤ 999 := by omega
          obtain rfl : n = 999 := by omega
          have HCa : Hid (acc = cands s.data.toList) := by rw [Hid, cands_eq, ← HQ0.out]; exact HQ.out
          have hne : acc ≠ [] := by rw [HCa.out]; unfold Sc.cands; simp
          obtain ⟨g, off, cap, rfl, hgl, hcl⟩ := HA.out.lies hne
          have HCl := Lib.hid hcl
          have HPb := Lib.hid HA.out.pb
          clear hcl hne hn hln HQ HA
          go_wp2
          generalize hW6 : wr = w6 at *
          clear hW6
          go_loopw [12] (fun ix wr => ∃ i : Nat, i ≤ acc.length ∧ ix = .int .i64 i ∧ Hid (PB w ⟨k, a, b, f, p, r, v⟩ wr) ∧ Hid (Ow w6 wr) ∧ Hid (∀ x ∈ acc.take i, hits ⟨k, a, b, f, p, r, v⟩ s.data.toList x = false)) (fun ix _ => acc.length - (intOf ix).toNat)
          case atStart => exact ⟨0, by omega, rfl, HPb, Ow.refl _, by simp [Hid]⟩
          case round =>
            clear HPb
            obtain ⟨i, hi, rfl, HP, HO, HH⟩ := hrel
            by_cases hlt : i < acc.length
            · obtain ⟨x, hx⟩ : ∃ x, acc[i]? = some x := ⟨acc[i], List.getElem?_eq_getElem hlt⟩
              have hq := (HCl.out i x hx).then HO.out
              have HWx : Hid (WfA x) := Sc.cands_wf (by rw [← HCa.out]; exact List.mem_of_getElem? hx)
              obtain ⟨u, hu⟩ : ∃ u : ByteArray, u.data.toList = ansS ⟨k, a, b, f, p, r, v⟩ x := ⟨⟨(ansS ⟨k, a, b, f, p, r, v⟩ x).toArray⟩, rfl⟩
              obtain ⟨m, hm⟩ : ∃ m, chkA ⟨k, a, b, f, p, r, v⟩ x = m := ⟨_, rfl⟩
              have HAn := Lib.hid (fun W => rans_any ⟨k, a, b, f, p, r, v⟩ x u m hu hm HWx.out W)
              have HX := Lib.hid hx
              have HU := Lib.hid hu
              have HM := Lib.hid hm
              have el : decide (i < acc.length) = true := by simpa using hlt
              have hlt2 : (i : Int) < (acc.length : Int) := by omega
              have hgr : g < wr.heap.size := Nat.lt_of_lt_of_le hgl HO.out.size
              clear hx hu hm
              obtain ⟨xe, xi, xv⟩ := x
              have hh : SQ wr w.heap.size ⟨k, a, b, f, p, r, v⟩ g (off + i * 3) ⟨xe, xi, xv⟩ wr := ⟨Ow.refl _, HP.out.box, hq⟩
              have hbl := HP.out.box.lt
              have hrl := HP.out.res.lt
              clear hq
              unfold ocells acells at HAn
              go_wp2_with fail
              go_region_held3 (fun w' => SQ wr w.heap.size ⟨k, a, b, f, p, r, v⟩ g (off + i * 3) ⟨xe, xi, xv⟩ w' ∧ w'.cell? ⟨w.heap.size, 0, none⟩ = some (.int .i64 k) ∧ w'.cell? ⟨w.heap.size, 1, none⟩ = some (.int .i64 a) ∧ w'.cell? ⟨w.heap.size, 2, none⟩ = some (.int .i64 b) ∧ w'.cell? ⟨w.heap.size, 3, none⟩ = some (.int .i64 f) ∧ w'.cell? ⟨w.heap.size, 4, none⟩ = some (.int .i64 p) ∧ w'.cell? ⟨w.heap.size, 5, none⟩ = some (.int .i64 r) ∧ w'.cell? ⟨w.heap.size, 6, none⟩ = some (.int .u64 v) ∧ w'.cell? ⟨g, off + i * 3, none⟩ = some (.int .i64 xe) ∧ w'.cell? ⟨g, off + i * 3 + 1, none⟩ = some (.bool xi) ∧ w'.cell? ⟨g, off + i * 3 + 2, none⟩ = some (.int .u64 xv)) (first | assumption | exact SQ.all (by assumption) | exact SQ.all (SQ.drewA (by assumption)) | exact SQ.all (SQ.drewB (by assumption)) | exact SQ.all (SQ.after (by assumption) (by assumption))) (first
                | (go_at_call 6; refine (HAn.out _).mono ?_; rintro e wa ⟨rfl, hba⟩))
              have D : Hid (Ow wr wa) := SQ.fin (by assumption)
              have HP2 := Lib.hid (HP.out.then D.out)
              have HO2 := Lib.hid (HO.out.then D.out)
              clear hh
              obtain ⟨a0, a1, a2⟩ := (HCl.out i _ HX.out).then HO2.out
              simp only at a0 a1 a2
              have hga : g < wa.heap.size := Nat.lt_of_lt_of_le hgr D.out.size
              by_cases hm0 : m = 0
              · subst hm0
                have HU2 : Hid (u.data.toList = ansT ⟨k, a, b, f, p, r, v⟩ ⟨xe, xi, xv⟩) := by rw [Hid, HU.out]; unfold Sc.ansS; rw [if_pos HM.out]
                by_cases hul : u = s
                · subst hul
                  have HF : Hid (parA ⟨k, a, b, f, p, r, v⟩ u.data.toList = some ⟨xe, xi, xv⟩) := by
                    rw [Hid, ← Sc.cands_find HK.out, ← HCa.out]
                    exact find_at HH.out HX.out (by simp only [Sc.hits, HM.out, HU2.out, beq_self_eq_true, decide_true, Bool.and_self])
                  have HE := Lib.hid (paE_ok HK.out HF.out)
                  have HRs := Lib.hid HP2.out.res
                  go_wp2_with (refine wpList_store_rowOf rfl 27 (.tmp 4) (.tmp 89) rfl (w.heap.size + 1) (by kernel_rfl) (by kernel_rfl) 27 _ HRs.out (by kernel_rfl) (by kernel_rfl) (by kernel_rfl) ?_)
                  refine roa_ret (c := ⟨xe, xi, xv⟩) (setRow_heap _ _ _ _ _ _ HRs.out) rfl rfl ?_
                  rw [HE.out.1, HE.out.2]
                  exact ⟨rfl, HP2.out.ow.row (by omega) _⟩
                · have hw1 : (u.toList == s.toList) = false := beq_eq_false_iff_ne.2 (fun e => hul (by rw [ba_toList, ba_toList] at e; exact ba_ext e))
                  have HN : Hid (∀ x ∈ acc.take (i + 1), hits ⟨k, a, b, f, p, r, v⟩ s.data.toList x = false) := take_more HH.out HX.out (by
                    simp only [Sc.hits, ← HU2.out, Bool.and_eq_false_iff]
                    right
                    rw [beq_eq_false_iff_ne]
                    exact fun e => hul (ba_ext e))
                  clear hul
                  go_wp2
                  go_roundw
                  case rel => exact ⟨i + 1, by omega, by go_num, HP2, HO2, HN⟩
                  case measure => simp [intOf]; omega
              · have hb0 : (m == 0) = false := beq_eq_false_iff_ne.2 hm0
                have HN : Hid (∀ x ∈ acc.take (i + 1), hits ⟨k, a, b, f, p, r, v⟩ s.data.toList x = false) := take_more HH.out HX.out (by
                  simp only [Sc.hits, HM.out, Bool.and_eq_false_iff]
                  left
                  exact decide_eq_false hm0)
                clear hm0
                go_wp2
                go_roundw
                case rel => exact ⟨i + 1, by omega, by go_num, HP2, HO2, HN⟩
                case measure => simp [intOf]; omega
            · have el : decide (i < acc.length) = false := by simpa using hlt
              have HF : Hid (parA ⟨k, a, b, f, p, r, v⟩ s.data.toList = none) := by rw [Hid, ← Sc.cands_find HK.out, ← HCa.out]; exact find_no HH.out (by omega)
              have HE := Lib.hid (paE_no HK.out HF.out)
              have HRs := Lib.hid HP.out.res
              have hrl := HP.out.res.lt
              clear hlt
              go_wp2_with (refine wpList_store_rowOf rfl 27 (.tmp 4) (.tmp 90) rfl (w.heap.size + 1) (by kernel_rfl) (by kernel_rfl) 27 _ HRs.out (by kernel_rfl) (by kernel_rfl) (by kernel_rfl) ?_)
              refine roa_ret (c := zeroA) (setRow_heap _ _ _ _ _ _ HRs.out) rfl rfl ?_
              rw [HE.out.1, HE.out.2]
              exact ⟨rfl, HP.out.ow.row (by omega) _⟩
/-- What ParseAnswer returns. -/
theorem rpa_any (c : OC) (s : ByteArray) (w : World) (hs : s.size ≤ 9000) :
    Calls Tryd.prog 8 #[.agg (ocells c), .string s] w fun o w' => o = .returned (.tuple #[.agg (acells (paA c s.data.toList)), .int .i64 (paE c s.data.toList)]) ∧ Ow w w' := by
  obtain ⟨k, a, b, f, p, r, v⟩ := c
  by_cases hc : chkE ⟨k, a, b, f, p, r, v⟩ = 0
  · by_cases hm : unhexE s.data.toList = 0
    · exact rpa_yes k a b f p r v s _ _ w hs hc rfl rfl hm
    · exact rpa_no k a b f p r v s _ _ w hs hc rfl rfl hm
  · exact rpa_bad k a b f p r v s _ w rfl hc
end Go.Proofs.YtaojogaakhidhaaDoor

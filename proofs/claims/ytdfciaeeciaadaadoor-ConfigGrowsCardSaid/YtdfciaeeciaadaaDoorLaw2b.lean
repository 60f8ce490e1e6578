/- ConfigChecks, ConfigRoom: the walks. -/
import Derived.Test.YtdfciaeeciaadaaDoorLaw2a
import Derived.Deep.RegionHeld3
import Derived.Deep.DrawnRows
namespace Go.Proofs.YtdfciaeeciaadaaDoor
open Go.RowKit
attribute [local go_sem ↓] Go.wp_at_zero Go.wp_at_succ

/-- Between the operations of a region: the box stands, and all that was there. -/
structure Rest (w : World) (cs : Array Value) (w' : World) : Prop where
  box : BoxS w.heap.size cs w'
  old : Below w.heap.size w w'
theorem Rest.drew {w : World} {cs : Array Value} {w' : World} (h : Rest w cs w') : Rest w cs w'.drew := ⟨h.box, Below.drew h.old⟩
theorem Rest.then {w : World} {cs : Array Value} {W w1 : World} (h : Rest w cs W) (hb : Below W.heap.size W w1) : Rest w cs w1 := ⟨h.box.then hb, Old.then h.old hb⟩
theorem Rest.after {w : World} {cs : Array Value} {W w1 : World} {q : Prop} (hb : Below W.heap.size W w1) (h : Rest w cs W ∧ q) : Rest w cs w1 := h.1.then hb
theorem Rest.fin {w : World} {cs : Array Value} {W : World} {q : Prop} (h : Rest w cs W ∧ q) : Below w.heap.size w W := h.1.old
def RestS (w : World) (C N S K Q : Int) (w' : World) : Prop := Rest w #[.int .i64 C, .int .i64 N, .int .i64 S, .int .i64 K, .int .i64 Q] w' ∧ w'.cell? ⟨w.heap.size, 0, none⟩ = some (.int .i64 C) ∧ w'.cell? ⟨w.heap.size, 1, none⟩ = some (.int .i64 N) ∧ w'.cell? ⟨w.heap.size, 2, none⟩ = some (.int .i64 S) ∧ w'.cell? ⟨w.heap.size, 3, none⟩ = some (.int .i64 K) ∧ w'.cell? ⟨w.heap.size, 4, none⟩ = some (.int .i64 Q)
theorem Rest.all {w : World} {C N S K Q : Int} {w' : World} (h : Rest w #[.int .i64 C, .int .i64 N, .int .i64 S, .int .i64 K, .int .i64 Q] w') : RestS w C N S K Q w' := ⟨h, h.box.2 0 _ rfl, h.box.2 1 _ rfl, h.box.2 2 _ rfl, h.box.2 3 _ rfl, h.box.2 4 _ rfl⟩

set_option maxRecDepth 100000 in
set_option maxHeartbeats 1000000 in
theorem checks_walk (C N S K Q n : Int) (w : World) :
    Calls Tryd.prog 5 #[.agg #[.int .i64 C, .int .i64 N, .int .i64 S, .int .i64 K, .int .i64 Q], .int .i64 n] w fun e w' => e = .returned (.bool true) ∧ Below w.heap.size w w' := by
  have hx0 := BoxS.new w #[.int .i64 C, .int .i64 N, .int .i64 S, .int .i64 K, .int .i64 Q] 23
  go_enter Tryd.func5, Tryd.ntmps5
  go_wp2_with (first | (go_at_call 20; refine (fits_any _ _ _ _ _ _ _).mono ?_; rintro e w1 ⟨rfl, hb⟩; have hx := BoxS.then (b := w.heap.size) (cs := #[.int .i64 C, .int .i64 N, .int .i64 S, .int .i64 K, .int .i64 Q]) (by assumption) hb; have c0 := hx.2 0 _ rfl; have c1 := hx.2 1 _ rfl; have c2 := hx.2 2 _ rfl; have c3 := hx.2 3 _ rfl; have c4 := hx.2 4 _ rfl; simp only [List.getElem_toArray, List.getElem_cons_zero, List.getElem_cons_succ] at c0 c1 c2 c3 c4) | (go_at_call 21; refine (rfits_any _ _ _ _ _ _ _).mono ?_; rintro e w1 ⟨rfl, hb⟩; have hx := BoxS.then (b := w.heap.size) (cs := #[.int .i64 C, .int .i64 N, .int .i64 S, .int .i64 K, .int .i64 Q]) (by assumption) hb; have c0 := hx.2 0 _ rfl; have c1 := hx.2 1 _ rfl; have c2 := hx.2 2 _ rfl; have c3 := hx.2 3 _ rfl; have c4 := hx.2 4 _ rfl; simp only [List.getElem_toArray, List.getElem_cons_zero, List.getElem_cons_succ] at c0 c1 c2 c3 c4))
  have hrest : Rest w #[.int .i64 C, .int .i64 N, .int .i64 S, .int .i64 K, .int .i64 Q] w1 := ⟨hx, (by repeat (first | exact Old.refl _ | (refine Old.then ?_ (by assumption)) | apply Old.drewN | apply Old.drew | apply Old.alloc))⟩
  go_region_held3 (fun w' => Rest w #[.int .i64 C, .int .i64 N, .int .i64 S, .int .i64 K, .int .i64 Q] w' ∧ w'.cell? ⟨w.heap.size, 0, none⟩ = some (.int .i64 C) ∧ w'.cell? ⟨w.heap.size, 1, none⟩ = some (.int .i64 N) ∧ w'.cell? ⟨w.heap.size, 2, none⟩ = some (.int .i64 S) ∧ w'.cell? ⟨w.heap.size, 3, none⟩ = some (.int .i64 K) ∧ w'.cell? ⟨w.heap.size, 4, none⟩ = some (.int .i64 Q)) (first | exact (Rest.drew (by assumption)).all | exact (Rest.after (by assumption) (by assumption)).all)
    (first | (go_at_call 10; refine (check_any _ _ _ _ _ _).mono ?_; rintro e w3 ⟨rfl, hb3⟩) | (go_at_call 22; refine (rcheck_any _ _ _ _ _ _).mono ?_; rintro e w3 ⟨rfl, hb3⟩) | (go_at_call 11; refine (awake_any _).mono ?_; rintro e w3 ⟨rfl, hb3⟩))
  go_wp2
  go_ret
  exact ⟨rfl, Rest.fin (by assumption)⟩

end Go.Proofs.YtdfciaeeciaadaaDoor

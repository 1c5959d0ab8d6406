/- Same: two formulas that are the same. -/
import Derived.Test.YtjijlkiilmbdnaaGreatDoorAl
import Derived.Test.YtjijlkiilmbdnaaGreatDoorRg
import Derived.Deep.RegionHeld3
namespace Go.Proofs.YtjijlkiilmbdnaaGreatDoor
open Go Go.RowKit

set_option maxRecDepth 100000 in
theorem Same_any (f : Fm) (hok : f.ok) (hd : f.depth ≤ 32) (hp : f.parts ≤ 512) (A A' : Nat → Prop) (w : World) (v u : Value) (hr : Rep A w f v) (hr' : Rep A' w f u) :
    Calls Tryz.prog 11 #[v, u] w fun e w' => e = .returned (.bool true) ∧ Below w.heap.size w w' := by
  obtain ⟨a, n, c, rfl⟩ := hr.agg
  obtain ⟨a', n', c', rfl⟩ := hr'.agg
  have hrH := hid hr
  have hrH' := hid hr'
  clear hr hr'
  go_enter Tryz.func11, Tryz.ntmps11
  go_wp2_with fail
  refine (check_ok f hok hd hp A _ _ (hrH.out.grew (B := w.heap.size) (by (repeat (first | exact Below.refl _ _ | assumption | exact below_step (by assumption) (by assumption) | (refine Below.drew ?_) | (refine below_drewN ?_ _) | (refine Below.alloc ?_ (by first | omega | (simp; done) | (simp; omega)) _) | (refine Below.setCell ?_ (by first | omega | (simp; done) | (simp; omega)) _) | (refine Below.trans ?_ (Below.mono (by assumption) (by first | omega | (simp; done) | (simp; omega))))))) (Nat.le_refl _))).mono ?_
  rintro e w1 ⟨rfl, hb1⟩
  have hB1 : Below w.heap.size w w1 := by (repeat (first | exact Below.refl _ _ | assumption | exact below_step (by assumption) (by assumption) | (refine Below.drew ?_) | (refine below_drewN ?_ _) | (refine Below.alloc ?_ (by first | omega | (simp; done) | (simp; omega)) _) | (refine Below.setCell ?_ (by first | omega | (simp; done) | (simp; omega)) _) | (refine Below.trans ?_ (Below.mono (by assumption) (by first | omega | (simp; done) | (simp; omega))))))
  have hs1 := hb1.size
  simp only [World.size_alloc] at hs1
  have E1 : w1.heap[w.heap.size]? = some (.cells #[.int .i64 f.op, .int .i64 f.lay, .slice a n c] 28 (0, 0)) := (hb1.block _ (by simp; omega)).trans ((Below.heap_alloc _ _ _ (by simp)).trans (heap_alloc_new w _))
  have F1 : w1.heap[w.heap.size + 1]? = some (.cells #[.int .i64 f.op, .int .i64 f.lay, .slice a' n' c'] 28 (0, 0)) := (hb1.block _ (by simp)).trans (by have := heap_alloc_new (w.alloc (.cells #[.int .i64 f.op, .int .i64 f.lay, .slice a n c] 28)) (.cells #[.int .i64 f.op, .int .i64 f.lay, .slice a' n' c'] 28); rwa [World.size_alloc] at this)
  obtain ⟨p0, p1, p2, _, _, _⟩ := three_cells F1
  have EH := hid E1
  have FH := hid F1
  clear hb1 E1 F1
  go_wp2_with fail
  refine (check_ok f hok hd hp A' _ _ (hrH'.out.grew hB1 (Nat.le_refl _))).mono ?_
  rintro e w2 ⟨rfl, hb2⟩
  have hB2 := below_step hB1 hb2
  have hs2 := hb2.size
  clear p0 p1 p2
  obtain ⟨p0, p1, p2, _, _, _⟩ := three_cells ((hb2.block _ (by omega)).trans EH.out)
  obtain ⟨q0, q1, q2, _, _, _⟩ := three_cells ((hb2.block _ (by omega)).trans FH.out)
  clear hb2
  go_wp2_with fail
  refine (same_any f A A' _ _ _ (hrH.out.grew hB2 (Nat.le_refl _)) (hrH'.out.grew hB2 (Nat.le_refl _))).mono ?_
  rintro e w3 ⟨rfl, hb3⟩
  go_wp2_with fail
  go_ret
  exact ⟨rfl, below_step hB2 hb3⟩

end Go.Proofs.YtjijlkiilmbdnaaGreatDoor

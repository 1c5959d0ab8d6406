/- Parse, of a formula's text. -/
import Derived.Test.YtjijlkiilmbdnaaGreatDoorPr
namespace Go.Proofs.YtjijlkiilmbdnaaGreatDoor
open Go Go.RowKit

set_option maxRecDepth 100000 in
set_option maxHeartbeats 800000 in
theorem Parse_any (f : Fm) (hok : f.ok) (hd : f.depth ≤ 32) (hp : f.parts ≤ 512) (hlen : f.text.length ≤ 4096) (w : World) :
    Calls Tryz.prog 7 #[.string ⟨f.text.toArray⟩] w fun e w' => ∃ v, e = .returned (.tuple #[v, .int .i64 0]) ∧ Rep (fun k => w.heap.size ≤ k) w' f v ∧ Below w.heap.size w w' := by
  have hl0 : ((f.text.length : Int) ≤ 4096) := by omega
  go_enter_defers Tryz.func7, Tryz.ntmps7
  go_wp2_with (first
    | (go_at_call 30; refine (must_true _ _).mono ?_; rintro e w1 ⟨rfl, rfl⟩)
    | (go_at_call 32; refine Calls.mono (levels_said _) ?_; rintro e w1 ⟨LB, rfl, hL1, hb1⟩))
  have hB1 : Below w.heap.size w w1 := by (repeat (first | exact Below.refl _ _ | assumption | exact below_step (by assumption) (by assumption) | (refine Below.drew ?_) | (refine below_drewN ?_ _) | (refine Below.alloc ?_ (by first | omega | (simp; done) | (simp; omega)) _) | (refine Below.setCell ?_ (by first | omega | (simp; done) | (simp; omega)) _) | (refine Below.trans ?_ (Below.mono (by assumption) (by first | omega | (simp; done) | (simp; omega))))))
  have hz : ∀ k : Nat, k < w.heap.size + 3 → w1.heap[k]? = (((w.alloc (.cells #[.int .i64 0, .int .i64 0, .slice none 0 0] 28)).alloc (.cells #[.int .i64 0] 33)).alloc (.cells #[.string ⟨f.text.toArray⟩, .int .i64 0] 64)).heap[k]? := fun k hk => hb1.block k (by simp; omega)
  have hX1 : w1.heap[w.heap.size]? = some (.cells #[.int .i64 0, .int .i64 0, .slice none 0 0] 28 (0, 0)) := by
    rw [hz _ (by omega), Below.heap_alloc _ _ _ (by first | omega | (simp; done) | (simp; omega)), Below.heap_alloc _ _ _ (by first | omega | (simp; done) | (simp; omega))]; exact heap_alloc_new w _
  have hE1 : w1.heap[w.heap.size + 1]? = some (.cells #[.int .i64 0] 33 (0, 0)) := by
    rw [hz _ (by omega), Below.heap_alloc _ _ _ (by first | omega | (simp; done) | (simp; omega))]
    have := heap_alloc_new (w.alloc (.cells #[.int .i64 0, .int .i64 0, .slice none 0 0] 28)) (.cells #[.int .i64 0] 33)
    rwa [World.size_alloc] at this
  have hR1 : Rdr w1 (w.heap.size + 1 + 1) f.text 0 := by
    show w1.heap[w.heap.size + 1 + 1]? = _
    rw [hz _ (by omega)]
    have := heap_alloc_new ((w.alloc (.cells #[.int .i64 0, .int .i64 0, .slice none 0 0] 28)).alloc (.cells #[.int .i64 0] 33)) (.cells #[.string ⟨f.text.toArray⟩, .int .i64 0] 64)
    simp only [World.size_alloc] at this
    exact this
  have hs1 := hb1.size
  simp only [World.size_alloc] at hs1
  clear hb1 hz
  refine (read_all f hok hd (w.heap.size + 1 + 1) w1 LB _ hL1 (.inr ⟨by omega, rfl⟩) hR1).mono ?_
  rintro e w2 ⟨v, rfl, hv, hR2, hG2⟩
  obtain ⟨a, n, cc, rfl⟩ := hv.agg
  have hX2 := (hG2.block _ (by omega) (by simp; omega)).trans hX1
  have hE2 := (hG2.block _ (by omega) (by simp)).trans hE1
  have hB2 : Below w.heap.size w w2 := hB1.grown hG2 hB1.size (fun k hk => by cases hk; omega)
  have hs2 := hG2.size
  have hv2 : Rep (fun k => w.heap.size + 3 ≤ k) w2 f (.agg #[.int .i64 f.op, .int .i64 f.lay, .slice a n cc]) := hv.keep (fun k hk _ => rfl) (fun k hk _ => by omega)
  obtain ⟨p0, p1, p2, pf0, pf1, pf2⟩ := three_cells hX2
  have hr0 := hR2.str
  have hrl := hR2.lt
  have hS := set_three_grown w2 w.heap.size (.int .i64 f.op) (.int .i64 f.lay) (.slice a n cc)
  have hX3 := res_three (.int .i64 f.op) (.int .i64 f.lay) (.slice a n cc) hX2
  have hE3 := (hS.block _ (lt_of_block hE2) (by simp)).trans hE2
  have hR3 := (hS.block _ hR2.lt (by simp; omega)).trans hR2
  have hv3 : Rep (fun k => w.heap.size + 3 ≤ k) _ f _ := hv2.keep (fun k hk hk2 => hS.block k hk2 (by simp; omega)) (fun k hk _ => hk)
  have hB3 := hB2.grown hS hB2.size (fun k hk => by cases hk; exact Nat.le_refl _)
  have hx2 : w.heap.size < w2.heap.size := by omega
  have hX3H := hid hX3
  have hE3H := hid hE3
  have hR3H := hid hR3
  have hv3H := hid hv3
  have hB3H := hid hB3
  clear hX1 hE1 hR1 hL1 hX2 hE2 hv hv2 hR2 hG2 hS hX3 hE3 hR3 hv3 hB3
  go_wp2_with (first | (go_at_call 30; refine (must_true _ _).mono ?_; rintro e w9 ⟨rfl, rfl⟩))
  refine (check_ok f hok hd hp _ _ _ hv3H.out).mono ?_
  rintro e w4 ⟨rfl, hb4⟩
  have hX4 := (hb4.block _ (lt_of_block hX3H.out)).trans hX3H.out
  have hE4 := (hb4.block _ (lt_of_block hE3H.out)).trans hE3H.out
  have hv4 := hv3H.out.grew hb4 (Nat.le_refl _)
  have hB4 := below_step hB3H.out hb4
  clear p0 p1 p2 pf0 pf1 pf2 hr0 hrl hx2 hX3H hE3H hR3H hv3H hB3H hb4
  obtain ⟨p0, p1, p2, pf0, pf1, pf2⟩ := three_cells hX4
  have hs4 := lt_of_block hX4
  have hse := lt_of_block hE4
  have e0 : w4.cell? ⟨w.heap.size + 1, 0, none⟩ = some (.int .i64 0) := by simp [World.cell?, hE4]
  have ef : w4.frozen? ⟨w.heap.size + 1, 0, none⟩ = false := by simp [World.frozen?, hE4]
  have hX4H := hid hX4
  have hE4H := hid hE4
  have hv4H := hid hv4
  clear hX4 hE4 hv4
  go_wp2_with (first | (go_at_call 30; refine (must_true _ _).mono ?_; rintro e w9 ⟨rfl, rfl⟩))
  refine leaves_cons (f := 28) (args := #[.pointer (some ⟨w.heap.size + 1, 0, none⟩), .func (.func 29) #[] #[.pointer (some ⟨w.heap.size, 0, none⟩)]]) (by simp) (by simp [go_sem]) ?_
  refine (caught_idle _ _ _).mono ?_
  rintro e u' w'' ⟨rfl, rfl, rfl⟩
  have hk : ∀ k : Nat, k ≠ w.heap.size → k ≠ w.heap.size + 1 → (((((w4.setCell ⟨w.heap.size + 1, 0, none⟩ (.int .i64 0)).setCell ⟨w.heap.size, 0, none⟩ (.int .i64 f.op)).setCell ⟨w.heap.size, 1, none⟩ (.int .i64 f.lay)).setCell ⟨w.heap.size, 2, none⟩ (.slice a n cc)).setCell ⟨w.heap.size + 1, 0, none⟩ (.int .i64 0)).heap[k]? = w4.heap[k]? := fun k h1 h2 => by
    rw [Below.heap_setCell _ _ _ _ (by dsimp only; omega), Below.heap_setCell _ _ _ _ (by dsimp only; omega), Below.heap_setCell _ _ _ _ (by dsimp only; omega), Below.heap_setCell _ _ _ _ (by dsimp only; omega), Below.heap_setCell _ _ _ _ (by dsimp only; omega)]
  have hP : (((((w4.setCell ⟨w.heap.size + 1, 0, none⟩ (.int .i64 0)).setCell ⟨w.heap.size, 0, none⟩ (.int .i64 f.op)).setCell ⟨w.heap.size, 1, none⟩ (.int .i64 f.lay)).setCell ⟨w.heap.size, 2, none⟩ (.slice a n cc)).setCell ⟨w.heap.size + 1, 0, none⟩ (.int .i64 0)).heap[w.heap.size]? = some (.cells #[.int .i64 f.op, .int .i64 f.lay, .slice a n cc] 28 (0, 0)) :=
    (Below.heap_setCell _ _ _ _ (by dsimp only; omega)).trans (res_three _ _ _ ((Below.heap_setCell _ _ _ _ (by dsimp only; omega)).trans hX4H.out))
  have hE : (((((w4.setCell ⟨w.heap.size + 1, 0, none⟩ (.int .i64 0)).setCell ⟨w.heap.size, 0, none⟩ (.int .i64 f.op)).setCell ⟨w.heap.size, 1, none⟩ (.int .i64 f.lay)).setCell ⟨w.heap.size, 2, none⟩ (.slice a n cc)).setCell ⟨w.heap.size + 1, 0, none⟩ (.int .i64 0)).cell? ⟨w.heap.size + 1, 0, none⟩ = some (.int .i64 0) := by
    refine World.cell?_setCell_same' _ _ _ ?_
    have e1 : (w4.setCell ⟨w.heap.size + 1, 0, none⟩ (.int .i64 0)).cell? ⟨w.heap.size + 1, 0, none⟩ = some (.int .i64 0) := World.cell?_setCell_same _ _ _ e0
    have ne : ∀ i, (⟨w.heap.size, i, none⟩ : Addr) ≠ ⟨w.heap.size + 1, 0, none⟩ := fun i e => by injection e with e; omega
    rw [cell_set (cell_set (cell_set e1 (ne 0)) (ne 1)) (ne 2)]
    rfl
  have hBf : Below w.heap.size w (((((w4.setCell ⟨w.heap.size + 1, 0, none⟩ (.int .i64 0)).setCell ⟨w.heap.size, 0, none⟩ (.int .i64 f.op)).setCell ⟨w.heap.size, 1, none⟩ (.int .i64 f.lay)).setCell ⟨w.heap.size, 2, none⟩ (.slice a n cc)).setCell ⟨w.heap.size + 1, 0, none⟩ (.int .i64 0)) := ((((hB4.setCell (p := ⟨w.heap.size + 1, 0, none⟩) (Nat.le_succ _) _).setCell (p := ⟨w.heap.size, 0, none⟩) (Nat.le_refl _) _).setCell (p := ⟨w.heap.size, 1, none⟩) (Nat.le_refl _) _).setCell (p := ⟨w.heap.size, 2, none⟩) (Nat.le_refl _) _).setCell (p := ⟨w.heap.size + 1, 0, none⟩) (Nat.le_succ _) _
  have hvf : Rep (fun k => w.heap.size ≤ k) (((((w4.setCell ⟨w.heap.size + 1, 0, none⟩ (.int .i64 0)).setCell ⟨w.heap.size, 0, none⟩ (.int .i64 f.op)).setCell ⟨w.heap.size, 1, none⟩ (.int .i64 f.lay)).setCell ⟨w.heap.size, 2, none⟩ (.slice a n cc)).setCell ⟨w.heap.size + 1, 0, none⟩ (.int .i64 0)) f (.agg #[.int .i64 f.op, .int .i64 f.lay, .slice a n cc]) := hv4H.out.keep (fun k hk1 _ => hk k (by omega) (by omega)) (fun k hk1 _ => by omega)
  generalize ((((w4.setCell ⟨w.heap.size + 1, 0, none⟩ (.int .i64 0)).setCell ⟨w.heap.size, 0, none⟩ (.int .i64 f.op)).setCell ⟨w.heap.size, 1, none⟩ (.int .i64 f.lay)).setCell ⟨w.heap.size, 2, none⟩ (.slice a n cc)).setCell ⟨w.heap.size + 1, 0, none⟩ (.int .i64 0) = w5 at *
  obtain ⟨c0, c1, c2, _, _, _⟩ := three_cells hP
  simp [Leaves, settle, results, Tryz.results7, go_sem, c0, c1, c2, hE]
  exact ⟨hvf, hBf⟩

end Go.Proofs.YtjijlkiilmbdnaaGreatDoor

/- within: something is read with one more open. -/
import Derived.Test.YtjijlkiilmbdnaaGreatDoorPl
import Derived.Test.YtjijlkiilmbdnaaGreatDoorCk
namespace Go.Proofs.YtjijlkiilmbdnaaGreatDoor
open Go Go.RowKit

theorem skip_said (w : World) (R o : Nat) (c : UInt8) (s : List UInt8) (h : Rdr w R (c :: s) o) :
    Calls Tryz.prog 51 #[.pointer (some ⟨R, 0, none⟩)] w fun e w' => e = .returned (.tuple #[]) ∧ Rdr w' R s o ∧ w.grownBy w' (some R) :=
  (skip_any w R o c s h).mono (by rintro e w' ⟨rfl, rfl⟩; exact ⟨rfl, h.set s, set_grown _ _ _⟩)

/-- What a reading of a formula comes to: the formula in memory of the call's own, and what is left. -/
def ReadPost (w : World) (R o : Nat) (f : Fm) (t : List UInt8) (e : Ending) (w' : World) : Prop :=
  ∃ v, e = .returned v ∧ Rep (fun k => w.heap.size ≤ k) w' f v ∧ Rdr w' R t o ∧ w.grownBy w' (some R)

/-- The result's cells are written last. -/
theorem fin_three {w W : World} {R o : Nat} {f : Fm} {t : List UInt8} {x y z x' y' z' : Value} (hX : W.heap[w.heap.size]? = some (.cells #[x, y, z] 28 (0, 0))) (hv : Rep (fun k => w.heap.size + 1 ≤ k) W f (.agg #[x', y', z']))
    (hR : Rdr W R t o) (hG : w.grownBy W (some R)) (hl : R < w.heap.size) :
    let W3 := ((W.setCell ⟨w.heap.size, 0, none⟩ x').setCell ⟨w.heap.size, 1, none⟩ y').setCell ⟨w.heap.size, 2, none⟩ z'
    W3.heap[w.heap.size]? = some (.cells #[x', y', z'] 28 (0, 0)) ∧ Rep (fun k => w.heap.size ≤ k) W3 f (.agg #[x', y', z']) ∧ Rdr W3 R t o ∧ w.grownBy W3 (some R) := by
  have hS := set_three_grown W w.heap.size x' y' z'
  refine ⟨res_three x' y' z' hX, hv.keep (fun k hk hk2 => hS.block k hk2 (by simp; omega)) (fun k hk _ => by omega), (hS.block _ hR.lt (by simp; omega)).trans hR, grown_past hG hS⟩

set_option maxRecDepth 100000 in
theorem within_meth (f : Fm) (s t : List UInt8) (c0 : UInt8) (w : World) (R o : Nat) (ho : o < 32) (h : Rdr w R (c0 :: s) o)
    (ih : ∀ W, w.grownBy W (some R) → w.heap.size < W.heap.size → Rdr W R s (o + 1) → Calls Tryz.prog 49 #[.pointer (some ⟨R, 0, none⟩)] W (ReadPost W R (o + 1) f t)) :
    Calls Tryz.prog 65 #[.pointer (some ⟨R, 0, none⟩), .func (.func 49) #[.pointer (some ⟨R, 0, none⟩)] #[]] w (ReadPost w R o f t) := by
  have hd : decide ((o : Int) < 32) = true := by simp; omega
  have hl := h.lt
  have hH := hid h
  have k1 := h.opn
  have ihH := hid ih
  clear h ih
  go_enter Tryz.func65, Tryz.ntmps65
  go_wp2_with (go_at_call 30; refine (must_true _ _).mono ?_; rintro e w1 ⟨rfl, rfl⟩)
  refine (skip_said _ R o c0 s (Rdr.below hH.out (by (repeat (first | exact Below.refl _ _ | assumption | exact below_step (by assumption) (by assumption) | (refine Below.drew ?_) | (refine below_drewN ?_ _) | (refine Below.alloc ?_ (by first | omega | (simp; done) | (simp; omega)) _) | (refine Below.setCell ?_ (by first | omega | (simp; done) | (simp; omega)) _) | (refine Below.trans ?_ (Below.mono (by assumption) (by first | omega | (simp; done) | (simp; omega))))))))).mono ?_
  rintro e w1 ⟨rfl, hR1, hG1⟩
  have hX1 : w1.heap[w.heap.size]? = some (.cells #[.int .i64 0, .int .i64 0, .slice none 0 0] 28 (0, 0)) := (hG1.block _ (by simp) (by simp; omega)).trans (heap_alloc_new w _)
  have hGw : w.grownBy w1 (some R) := grown_same (World.grownBy_alloc _ _ _) hG1
  have hs1 := lt_of_block hX1
  have k1' := hR1.opn
  have f1 := hR1.fr1
  have hR1H := hid hR1
  have hX1H := hid hX1
  have hl1 := hR1.lt
  clear hG1 hX1 hR1 k1 hH
  go_wp2_with fail
  have hR2 : Rdr (w1.setCell ⟨R, 1, none⟩ (.int .i64 ((o : Int) + 1))) R s (o + 1) := Rdr.seto (o + 1) hR1H.out
  have hG2 := grown_same hGw (set_grown w1 ⟨R, 1, none⟩ (.int .i64 ((o : Int) + 1)))
  have hX2 : (w1.setCell ⟨R, 1, none⟩ (.int .i64 ((o : Int) + 1))).heap[w.heap.size]? = _ := (Below.heap_setCell _ _ _ _ (by dsimp only; omega)).trans hX1H.out
  have hs2 : w.heap.size < (w1.setCell ⟨R, 1, none⟩ (.int .i64 ((o : Int) + 1))).heap.size := by simpa using hs1
  refine (ihH.out _ hG2 hs2 hR2).mono ?_
  rintro e w3 ⟨v, rfl, hv, hR3, hG3⟩
  have hX3 := (hG3.block _ hs2 (by simp; omega)).trans hX2
  have hG3w := grown_same hG2 hG3
  have hv3 : Rep (fun k => w.heap.size + 1 ≤ k) w3 f v := hv.keep (fun k hk _ => rfl) (fun k hk _ => by omega)
  have hs3 := lt_of_block hX3
  obtain ⟨a, n, cc, rfl⟩ := hv.agg
  have k3 := hR3.opn
  have f3 := hR3.fr1
  have hl3 := hR3.lt
  have hX3H := hid hX3
  have hvH := hid hv3
  have hR3H := hid hR3
  obtain ⟨p0, p1, p2, pf0, pf1, pf2⟩ := three_cells hX3
  clear hG3 hX3 hv hv3 hR3 hX2 hR2 k1' f1 hGw hR1H hX1H
  go_wp2_with fail
  have hR4 : Rdr (w3.setCell ⟨R, 1, none⟩ (.int .i64 o)) R t o := Rdr.seto o hR3H.out
  have hG4 := grown_same hG3w (set_grown w3 ⟨R, 1, none⟩ (.int .i64 o))
  have hX4 : (w3.setCell ⟨R, 1, none⟩ (.int .i64 o)).heap[w.heap.size]? = _ := (Below.heap_setCell _ _ _ _ (by dsimp only; omega)).trans hX3H.out
  have hv4 := hvH.out.keep (B := fun k => w.heap.size + 1 ≤ k) (w' := w3.setCell ⟨R, 1, none⟩ (.int .i64 o)) (fun k hk _ => Below.heap_setCell _ _ _ _ (by dsimp only; omega)) (fun k hk _ => hk)
  obtain ⟨E, hv5, hR5, hG5⟩ := fin_three hX4 hv4 hR4 hG4 hl
  obtain ⟨c0, c1, c2, _, _, _⟩ := three_cells E
  have hb5 := lt_of_block E
  generalize (((w3.setCell ⟨R, 1, none⟩ (.int .i64 o)).setCell ⟨w.heap.size, 0, none⟩ (.int .i64 f.op)).setCell ⟨w.heap.size, 1, none⟩ (.int .i64 f.lay)).setCell ⟨w.heap.size, 2, none⟩ (.slice a n cc) = w5 at *
  exact bodyPost_ret (v := .agg #[.int .i64 f.op, .int .i64 f.lay, .slice a n cc]) (by simp [results, Tryz.results65, go_sem, c0, c1, c2, hb5]) rfl
    ⟨_, rfl, hv5.grew (B := w5.heap.size) ((Below.refl _ _).alloc (Nat.le_refl _) _) (Nat.le_refl _), hR5.below ((Below.refl _ _).alloc (Nat.le_refl _) _), grown_same hG5 (World.grownBy_alloc _ _ _)⟩

set_option maxRecDepth 100000 in
theorem within_clo (f : Fm) (s t : List UInt8) (c0 : UInt8) (w : World) (R o : Nat) (c : Value) (ho : o < 32) (h : Rdr w R (c0 :: s) o)
    (ih : ∀ W, w.grownBy W (some R) → w.heap.size < W.heap.size → Rdr W R s (o + 1) → Calls Tryz.prog 66 #[c] W (ReadPost W R (o + 1) f t)) :
    Calls Tryz.prog 65 #[.pointer (some ⟨R, 0, none⟩), .func (.func 66) #[] #[c]] w (ReadPost w R o f t) := by
  have hd : decide ((o : Int) < 32) = true := by simp; omega
  have hl := h.lt
  have hH := hid h
  have k1 := h.opn
  have ihH := hid ih
  clear h ih
  go_enter Tryz.func65, Tryz.ntmps65
  go_wp2_with (go_at_call 30; refine (must_true _ _).mono ?_; rintro e w1 ⟨rfl, rfl⟩)
  refine (skip_said _ R o c0 s (Rdr.below hH.out (by (repeat (first | exact Below.refl _ _ | assumption | exact below_step (by assumption) (by assumption) | (refine Below.drew ?_) | (refine below_drewN ?_ _) | (refine Below.alloc ?_ (by first | omega | (simp; done) | (simp; omega)) _) | (refine Below.setCell ?_ (by first | omega | (simp; done) | (simp; omega)) _) | (refine Below.trans ?_ (Below.mono (by assumption) (by first | omega | (simp; done) | (simp; omega))))))))).mono ?_
  rintro e w1 ⟨rfl, hR1, hG1⟩
  have hX1 : w1.heap[w.heap.size]? = some (.cells #[.int .i64 0, .int .i64 0, .slice none 0 0] 28 (0, 0)) := (hG1.block _ (by simp) (by simp; omega)).trans (heap_alloc_new w _)
  have hGw : w.grownBy w1 (some R) := grown_same (World.grownBy_alloc _ _ _) hG1
  have hs1 := lt_of_block hX1
  have k1' := hR1.opn
  have f1 := hR1.fr1
  have hR1H := hid hR1
  have hX1H := hid hX1
  have hl1 := hR1.lt
  clear hG1 hX1 hR1 k1 hH
  go_wp2_with fail
  have hR2 : Rdr (w1.setCell ⟨R, 1, none⟩ (.int .i64 ((o : Int) + 1))) R s (o + 1) := Rdr.seto (o + 1) hR1H.out
  have hG2 := grown_same hGw (set_grown w1 ⟨R, 1, none⟩ (.int .i64 ((o : Int) + 1)))
  have hX2 : (w1.setCell ⟨R, 1, none⟩ (.int .i64 ((o : Int) + 1))).heap[w.heap.size]? = _ := (Below.heap_setCell _ _ _ _ (by dsimp only; omega)).trans hX1H.out
  have hs2 : w.heap.size < (w1.setCell ⟨R, 1, none⟩ (.int .i64 ((o : Int) + 1))).heap.size := by simpa using hs1
  refine (ihH.out _ hG2 hs2 hR2).mono ?_
  rintro e w3 ⟨v, rfl, hv, hR3, hG3⟩
  have hX3 := (hG3.block _ hs2 (by simp; omega)).trans hX2
  have hG3w := grown_same hG2 hG3
  have hv3 : Rep (fun k => w.heap.size + 1 ≤ k) w3 f v := hv.keep (fun k hk _ => rfl) (fun k hk _ => by omega)
  have hs3 := lt_of_block hX3
  obtain ⟨a, n, cc, rfl⟩ := hv.agg
  have k3 := hR3.opn
  have f3 := hR3.fr1
  have hl3 := hR3.lt
  have hX3H := hid hX3
  have hvH := hid hv3
  have hR3H := hid hR3
  obtain ⟨p0, p1, p2, pf0, pf1, pf2⟩ := three_cells hX3
  clear hG3 hX3 hv hv3 hR3 hX2 hR2 k1' f1 hGw hR1H hX1H
  go_wp2_with fail
  have hR4 : Rdr (w3.setCell ⟨R, 1, none⟩ (.int .i64 o)) R t o := Rdr.seto o hR3H.out
  have hG4 := grown_same hG3w (set_grown w3 ⟨R, 1, none⟩ (.int .i64 o))
  have hX4 : (w3.setCell ⟨R, 1, none⟩ (.int .i64 o)).heap[w.heap.size]? = _ := (Below.heap_setCell _ _ _ _ (by dsimp only; omega)).trans hX3H.out
  have hv4 := hvH.out.keep (B := fun k => w.heap.size + 1 ≤ k) (w' := w3.setCell ⟨R, 1, none⟩ (.int .i64 o)) (fun k hk _ => Below.heap_setCell _ _ _ _ (by dsimp only; omega)) (fun k hk _ => hk)
  obtain ⟨E, hv5, hR5, hG5⟩ := fin_three hX4 hv4 hR4 hG4 hl
  obtain ⟨c0, c1, c2, _, _, _⟩ := three_cells E
  have hb5 := lt_of_block E
  generalize (((w3.setCell ⟨R, 1, none⟩ (.int .i64 o)).setCell ⟨w.heap.size, 0, none⟩ (.int .i64 f.op)).setCell ⟨w.heap.size, 1, none⟩ (.int .i64 f.lay)).setCell ⟨w.heap.size, 2, none⟩ (.slice a n cc) = w5 at *
  exact bodyPost_ret (v := .agg #[.int .i64 f.op, .int .i64 f.lay, .slice a n cc]) (by simp [results, Tryz.results65, go_sem, c0, c1, c2, hb5]) rfl
    ⟨_, rfl, hv5.grew (B := w5.heap.size) ((Below.refl _ _).alloc (Nat.le_refl _) _) (Nat.le_refl _), hR5.below ((Below.refl _ _).alloc (Nat.le_refl _) _), grown_same hG5 (World.grownBy_alloc _ _ _)⟩

end Go.Proofs.YtjijlkiilmbdnaaGreatDoor

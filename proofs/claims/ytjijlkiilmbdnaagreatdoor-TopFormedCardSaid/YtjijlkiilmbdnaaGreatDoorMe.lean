/- measure: the depth and the parts of a formula. -/
import Derived.Test.YtjijlkiilmbdnaaGreatDoorFa
import Derived.Test.YtjijlkiilmbdnaaGreatDoorWa
namespace Go.Proofs.YtjijlkiilmbdnaaGreatDoor
open Go Go.RowKit

/-- What measure comes to. -/
def MeasureSaid (f : Fm) : Prop := ∀ (A : Nat → Prop) (w : World) (v : Value), Rep A w f v →
  Calls Tryz.prog 47 #[v] w fun e w' => e = .returned (.tuple #[.int .i64 f.depth, .int .i64 f.parts]) ∧ Below w.heap.size w w'

set_option maxHeartbeats 400000 in
theorem measure_layer (n : Nat) (hn : n < 16) (w : World) :
    Calls Tryz.prog 47 #[.agg #[.int .i64 1, .int .i64 n, .slice none 0 0]] w fun e w' =>
      e = .returned (.tuple #[.int .i64 1, .int .i64 1]) ∧ Below w.heap.size w w' := by
  have g1 : (needsOf 1 : Int) = 0 := rfl
  have hb1 : decide ((0 : Int) ≤ n) = true := by simp
  have hb2 : decide ((n : Int) < 16) = true := by simp; omega
  go_enter Tryz.func47, Tryz.ntmps47
  go_wp2_with fail
  go_quiet (first
    | (go_at_call 62; exact Calls.quiet_of_same ((needs_any _ _).mono fun _ _ ⟨a, b⟩ => ⟨a, b.symm⟩))
    | (go_at_call 30; exact Calls.quiet_of_same ((must_true _ _).mono fun _ _ ⟨a, b⟩ => ⟨a, b.symm⟩)))
  go_wp2_with fail
  refine wp_loop_rounds 1 ?_; rw [rounds_succ]
  go_wp2_with fail
  go_ret2
  exact ⟨rfl, by (repeat (first | exact Below.refl _ _ | assumption | exact below_step (by assumption) (by assumption) | (refine Below.drew ?_) | (refine below_drewN ?_ _) | (refine Below.alloc ?_ (by first | omega | (simp; done) | (simp; omega)) _) | (refine Below.setCell ?_ (by first | omega | (simp; done) | (simp; omega)) _) | (refine Below.trans ?_ (Below.mono (by assumption) (by first | omega | (simp; done) | (simp; omega))))))⟩

set_option maxHeartbeats 400000 in
theorem measure_not (f : Fm) (ih : MeasureSaid f) (hp : f.parts ≤ 512) (A : Nat → Prop) (w : World) (v : Value) (hr : Rep A w (.not f) v) :
    Calls Tryz.prog 47 #[v] w fun e w' =>
      e = .returned (.tuple #[.int .i64 ((f.depth : Int) + 1), .int .i64 ((f.parts : Int) + 1)]) ∧ Below w.heap.size w w' := by
  obtain ⟨b, off, cap, x, y, z, rfl, h1, h2, hA, hx, hy, hz, hf⟩ := hr
  have g1 : (needsOf 2 : Int) = 1 := rfl
  have hlt := World.block_lt_of_cell? w _ hx
  obtain ⟨a, n, c, rfl, rfl, rfl⟩ := hf.cells
  have hf' := hid hf
  clear hf
  have hd0 := f.depth_pos
  have hd1 := f.depth_le
  go_enter Tryz.func47, Tryz.ntmps47
  go_wp2_with fail
  go_quiet (first
    | (go_at_call 62; exact Calls.quiet_of_same ((needs_any _ _).mono fun _ _ ⟨a, b⟩ => ⟨a, b.symm⟩))
    | (go_at_call 30; exact Calls.quiet_of_same ((must_true _ _).mono fun _ _ ⟨a, b⟩ => ⟨a, b.symm⟩)))
  go_wp2_with fail
  refine wp_loop_rounds 2 ?_; rw [rounds_succ]
  go_wp2_with fail
  refine (ih A _ _ (hf'.out.grew (B := w.heap.size) (by (repeat (first | exact Below.refl _ _ | assumption | exact below_step (by assumption) (by assumption) | (refine Below.drew ?_) | (refine below_drewN ?_ _) | (refine Below.alloc ?_ (by first | omega | (simp; done) | (simp; omega)) _) | (refine Below.setCell ?_ (by first | omega | (simp; done) | (simp; omega)) _) | (refine Below.trans ?_ (Below.mono (by assumption) (by first | omega | (simp; done) | (simp; omega))))))) (Nat.le_refl _))).mono ?_
  rintro e w1 ⟨rfl, hb1⟩
  go_wp2_with fail
  rw [rounds_succ]
  go_wp2_with fail
  go_ret2
  exact ⟨by simp; omega, by (repeat (first | exact Below.refl _ _ | assumption | exact below_step (by assumption) (by assumption) | (refine Below.drew ?_) | (refine below_drewN ?_ _) | (refine Below.alloc ?_ (by first | omega | (simp; done) | (simp; omega)) _) | (refine Below.setCell ?_ (by first | omega | (simp; done) | (simp; omega)) _) | (refine Below.trans ?_ (Below.mono (by assumption) (by first | omega | (simp; done) | (simp; omega))))))⟩

set_option maxHeartbeats 800000 in
theorem measure_bin (o : Nat) (f g : Fm) (ih : MeasureSaid f) (ihg : MeasureSaid g) (ho : 3 ≤ o) (ho' : o ≤ 6) (hp : f.parts + g.parts ≤ 512) (A : Nat → Prop) (w : World) (v : Value) (hr : Rep A w (.bin o f g) v) :
    Calls Tryz.prog 47 #[v] w fun e w' =>
      e = .returned (.tuple #[.int .i64 ((max f.depth g.depth : Nat) + 1 : Int), .int .i64 ((f.parts : Int) + g.parts + 1)]) ∧ Below w.heap.size w w' := by
  obtain ⟨b, off, cap, x, y, z, x', y', z', rfl, h1, h2, hA, hx, hy, hz, hx', hy', hz', hf, hg⟩ := hr
  have g1 : (needsOf o : Int) = 2 := by unfold needsOf; (repeat rw [if_neg (by omega)]); rw [if_pos (by omega)]
  have hlt := World.block_lt_of_cell? w _ hx
  obtain ⟨a, n, c, rfl, rfl, rfl⟩ := hf.cells
  obtain ⟨a', n', c', rfl, rfl, rfl⟩ := hg.cells
  have hf' := hid hf
  have hg' := hid hg
  clear hf hg
  have hd0 := f.depth_pos
  have hd1 := f.depth_le
  have hd2 := g.depth_pos
  have hd3 := g.depth_le
  have ho1 : ((o : Int) == 1) = false := by simp; omega
  go_enter Tryz.func47, Tryz.ntmps47
  go_wp2_with fail
  go_quiet (first
    | (go_at_call 62; exact Calls.quiet_of_same ((needs_any _ _).mono fun _ _ ⟨a, b⟩ => ⟨a, b.symm⟩))
    | (go_at_call 30; exact Calls.quiet_of_same ((must_true _ _).mono fun _ _ ⟨a, b⟩ => ⟨a, b.symm⟩)))
  go_wp2_with fail
  refine wp_loop_rounds 3 ?_; rw [rounds_succ]
  go_wp2_with fail
  refine (ih A _ _ (hf'.out.grew (B := w.heap.size) (by (repeat (first | exact Below.refl _ _ | assumption | exact below_step (by assumption) (by assumption) | (refine Below.drew ?_) | (refine below_drewN ?_ _) | (refine Below.alloc ?_ (by first | omega | (simp; done) | (simp; omega)) _) | (refine Below.setCell ?_ (by first | omega | (simp; done) | (simp; omega)) _) | (refine Below.trans ?_ (Below.mono (by assumption) (by first | omega | (simp; done) | (simp; omega))))))) (Nat.le_refl _))).mono ?_
  rintro e w1 ⟨rfl, hb1⟩
  have hB1 : Below w.heap.size w w1 := by (repeat (first | exact Below.refl _ _ | assumption | exact below_step (by assumption) (by assumption) | (refine Below.drew ?_) | (refine below_drewN ?_ _) | (refine Below.alloc ?_ (by first | omega | (simp; done) | (simp; omega)) _) | (refine Below.setCell ?_ (by first | omega | (simp; done) | (simp; omega)) _) | (refine Below.trans ?_ (Below.mono (by assumption) (by first | omega | (simp; done) | (simp; omega))))))
  have hs1 := hB1.size
  clear hb1
  have kx := keepc hB1 hx'
  have ky := keepc hB1 hy'
  have kz := keepc hB1 hz'
  go_wp2_with fail
  rw [rounds_succ]
  go_wp2_with fail
  refine (ihg A _ _ (hg'.out.grew (B := w.heap.size) (by (repeat (first | exact Below.refl _ _ | assumption | exact below_step (by assumption) (by assumption) | (refine Below.drew ?_) | (refine below_drewN ?_ _) | (refine Below.alloc ?_ (by first | omega | (simp; done) | (simp; omega)) _) | (refine Below.setCell ?_ (by first | omega | (simp; done) | (simp; omega)) _) | (refine Below.trans ?_ (Below.mono (by assumption) (by first | omega | (simp; done) | (simp; omega))))))) (Nat.le_refl _))).mono ?_
  rintro e w2 ⟨rfl, hb2⟩
  go_wp2_with fail
  all_goals rw [rounds_succ]
  all_goals go_wp2_with fail
  all_goals go_ret2
  all_goals exact ⟨by simp; omega, by (repeat (first | exact Below.refl _ _ | assumption | exact below_step (by assumption) (by assumption) | (refine Below.drew ?_) | (refine below_drewN ?_ _) | (refine Below.alloc ?_ (by first | omega | (simp; done) | (simp; omega)) _) | (refine Below.setCell ?_ (by first | omega | (simp; done) | (simp; omega)) _) | (refine Below.trans ?_ (Below.mono (by assumption) (by first | omega | (simp; done) | (simp; omega))))))⟩

theorem measure_any (f : Fm) (hok : f.ok) (hp : f.parts ≤ 512) : MeasureSaid f := by
  induction f with
  | layer n => intro A w v hr; obtain rfl := hr; exact measure_layer n hok w
  | not f ih => intro A w v hr; simp only [Fm.parts] at hp; exact measure_not f (ih hok (by omega)) (by omega) A w v hr
  | bin o f g ih ihg =>
    intro A w v hr; simp only [Fm.parts] at hp
    exact measure_bin o f g (ih hok.2.2.1 (by omega)) (ihg hok.2.2.2 (by omega)) hok.1 hok.2.1 (by omega) A w v hr

end Go.Proofs.YtjijlkiilmbdnaaGreatDoor

/- alike, same: are two formulas the same? -/
import Derived.Test.YtjijlkiilmbdnaaGreatDoorCk
namespace Go.Proofs.YtjijlkiilmbdnaaGreatDoor
open Go Go.RowKit

/-- What alike comes to of two that are the same. -/
def AlikeSaid (f : Fm) : Prop := ∀ (A A' : Nat → Prop) (w : World) (v u : Value), Rep A w f v → Rep A' w f u →
  Calls Tryz.prog 10 #[v, u] w fun e w' => e = .returned (.bool true) ∧ Below w.heap.size w w'

theorem eqf_alike_none (c d : Nat) (w : World) (a b : Option Addr) :
    Calls Tryz.prog 34 #[.slice a 0 c, .slice b 0 d, .func (.func 10) #[] #[]] w fun e w' => e = .returned (.bool true) ∧ Below w.heap.size w w' := by
  go_enter Tryz.func34, Tryz.ntmps34
  go_wp2_with fail
  refine wp_loop_rounds 1 ?_; rw [rounds_succ]
  go_wp2_with fail
  go_ret
  exact ⟨rfl, by (repeat (first | exact Below.refl _ _ | assumption | exact below_step (by assumption) (by assumption) | (refine Below.drew ?_) | (refine below_drewN ?_ _) | (refine Below.alloc ?_ (by first | omega | (simp; done) | (simp; omega)) _) | (refine Below.setCell ?_ (by first | omega | (simp; done) | (simp; omega)) _) | (refine Below.trans ?_ (Below.mono (by assumption) (by first | omega | (simp; done) | (simp; omega))))))⟩

theorem eqf_alike_one (f : Fm) (ih : AlikeSaid f) (A A' : Nat → Prop) (w : World) (b off c b' off' c' : Nat) (x y z x' y' z' : Value) (_h1 : 1 ≤ c) (_h1' : 1 ≤ c') (_hc4 : 0 ≤ c) (_hc4' : 0 ≤ c')
    (hx : w.cell? ⟨b, off, none⟩ = some x) (hy : w.cell? ⟨b, off + 1, none⟩ = some y) (hz : w.cell? ⟨b, off + 2, none⟩ = some z) (hf : Rep A w f (.agg #[x, y, z]))
    (hx' : w.cell? ⟨b', off', none⟩ = some x') (hy' : w.cell? ⟨b', off' + 1, none⟩ = some y') (hz' : w.cell? ⟨b', off' + 2, none⟩ = some z') (hf' : Rep A' w f (.agg #[x', y', z'])) :
    Calls Tryz.prog 34 #[.slice (some ⟨b, off, none⟩) 1 c, .slice (some ⟨b', off', none⟩) 1 c', .func (.func 10) #[] #[]] w fun e w' => e = .returned (.bool true) ∧ Below w.heap.size w w' := by
  have hlt := World.block_lt_of_cell? w _ hx
  have hlt' := World.block_lt_of_cell? w _ hx'
  obtain ⟨a, n, k, rfl, rfl, rfl⟩ := hf.cells
  obtain ⟨a', n', k', rfl, rfl, rfl⟩ := hf'.cells
  have hfH := hid hf
  have hfH' := hid hf'
  clear hf hf'
  go_enter Tryz.func34, Tryz.ntmps34
  go_wp2_with fail
  refine wp_loop_rounds 2 ?_; rw [rounds_succ]
  go_wp2_with fail
  refine (ih A A' _ _ _ (hfH.out.grew (B := w.heap.size) (by (repeat (first | exact Below.refl _ _ | assumption | exact below_step (by assumption) (by assumption) | (refine Below.drew ?_) | (refine below_drewN ?_ _) | (refine Below.alloc ?_ (by first | omega | (simp; done) | (simp; omega)) _) | (refine Below.setCell ?_ (by first | omega | (simp; done) | (simp; omega)) _) | (refine Below.trans ?_ (Below.mono (by assumption) (by first | omega | (simp; done) | (simp; omega))))))) (Nat.le_refl _)) (hfH'.out.grew (B := w.heap.size) (by (repeat (first | exact Below.refl _ _ | assumption | exact below_step (by assumption) (by assumption) | (refine Below.drew ?_) | (refine below_drewN ?_ _) | (refine Below.alloc ?_ (by first | omega | (simp; done) | (simp; omega)) _) | (refine Below.setCell ?_ (by first | omega | (simp; done) | (simp; omega)) _) | (refine Below.trans ?_ (Below.mono (by assumption) (by first | omega | (simp; done) | (simp; omega))))))) (Nat.le_refl _))).mono ?_
  rintro e w1 ⟨rfl, hb1⟩
  have hB1 : Below w.heap.size w w1 := by (repeat (first | exact Below.refl _ _ | assumption | exact below_step (by assumption) (by assumption) | (refine Below.drew ?_) | (refine below_drewN ?_ _) | (refine Below.alloc ?_ (by first | omega | (simp; done) | (simp; omega)) _) | (refine Below.setCell ?_ (by first | omega | (simp; done) | (simp; omega)) _) | (refine Below.trans ?_ (Below.mono (by assumption) (by first | omega | (simp; done) | (simp; omega))))))
  go_wp2_with fail
  rw [rounds_succ]
  go_wp2_with fail
  go_ret
  exact ⟨rfl, hB1⟩

theorem eqf_alike_two (f g : Fm) (ih : AlikeSaid f) (ihg : AlikeSaid g) (A A' : Nat → Prop) (w : World) (b off c b' off' c' : Nat) (x y z x' y' z' x2 y2 z2 x2' y2' z2' : Value) (_h1 : 2 ≤ c) (_h1' : 2 ≤ c') (_hc4 : 0 ≤ c) (_hc4' : 0 ≤ c')
    (hx : w.cell? ⟨b, off, none⟩ = some x) (hy : w.cell? ⟨b, off + 1, none⟩ = some y) (hz : w.cell? ⟨b, off + 2, none⟩ = some z) (hf : Rep A w f (.agg #[x, y, z]))
    (hx' : w.cell? ⟨b', off', none⟩ = some x') (hy' : w.cell? ⟨b', off' + 1, none⟩ = some y') (hz' : w.cell? ⟨b', off' + 2, none⟩ = some z') (hf' : Rep A' w f (.agg #[x', y', z']))
    (hx2 : w.cell? ⟨b, off + 3, none⟩ = some x2) (hy2 : w.cell? ⟨b, off + 3 + 1, none⟩ = some y2) (hz2 : w.cell? ⟨b, off + 3 + 2, none⟩ = some z2) (hg : Rep A w g (.agg #[x2, y2, z2]))
    (hx2' : w.cell? ⟨b', off' + 3, none⟩ = some x2') (hy2' : w.cell? ⟨b', off' + 3 + 1, none⟩ = some y2') (hz2' : w.cell? ⟨b', off' + 3 + 2, none⟩ = some z2') (hg' : Rep A' w g (.agg #[x2', y2', z2'])) :
    Calls Tryz.prog 34 #[.slice (some ⟨b, off, none⟩) 2 c, .slice (some ⟨b', off', none⟩) 2 c', .func (.func 10) #[] #[]] w fun e w' => e = .returned (.bool true) ∧ Below w.heap.size w w' := by
  have hlt := World.block_lt_of_cell? w _ hx
  have hlt' := World.block_lt_of_cell? w _ hx'
  obtain ⟨a, n, k, rfl, rfl, rfl⟩ := hf.cells
  obtain ⟨a', n', k', rfl, rfl, rfl⟩ := hf'.cells
  obtain ⟨a2, n2, k2, rfl, rfl, rfl⟩ := hg.cells
  obtain ⟨a2', n2', k2', rfl, rfl, rfl⟩ := hg'.cells
  have hfH := hid hf
  have hfH' := hid hf'
  have hgH := hid hg
  have hgH' := hid hg'
  clear hf hf' hg hg'
  go_enter Tryz.func34, Tryz.ntmps34
  go_wp2_with fail
  refine wp_loop_rounds 3 ?_; rw [rounds_succ]
  go_wp2_with fail
  refine (ih A A' _ _ _ (hfH.out.grew (B := w.heap.size) (by (repeat (first | exact Below.refl _ _ | assumption | exact below_step (by assumption) (by assumption) | (refine Below.drew ?_) | (refine below_drewN ?_ _) | (refine Below.alloc ?_ (by first | omega | (simp; done) | (simp; omega)) _) | (refine Below.setCell ?_ (by first | omega | (simp; done) | (simp; omega)) _) | (refine Below.trans ?_ (Below.mono (by assumption) (by first | omega | (simp; done) | (simp; omega))))))) (Nat.le_refl _)) (hfH'.out.grew (B := w.heap.size) (by (repeat (first | exact Below.refl _ _ | assumption | exact below_step (by assumption) (by assumption) | (refine Below.drew ?_) | (refine below_drewN ?_ _) | (refine Below.alloc ?_ (by first | omega | (simp; done) | (simp; omega)) _) | (refine Below.setCell ?_ (by first | omega | (simp; done) | (simp; omega)) _) | (refine Below.trans ?_ (Below.mono (by assumption) (by first | omega | (simp; done) | (simp; omega))))))) (Nat.le_refl _))).mono ?_
  rintro e w1 ⟨rfl, hb1⟩
  have hB1 : Below w.heap.size w w1 := by (repeat (first | exact Below.refl _ _ | assumption | exact below_step (by assumption) (by assumption) | (refine Below.drew ?_) | (refine below_drewN ?_ _) | (refine Below.alloc ?_ (by first | omega | (simp; done) | (simp; omega)) _) | (refine Below.setCell ?_ (by first | omega | (simp; done) | (simp; omega)) _) | (refine Below.trans ?_ (Below.mono (by assumption) (by first | omega | (simp; done) | (simp; omega))))))
  have hs1 := hB1.size
  have hl1 : b < w1.heap.size := Nat.lt_of_lt_of_le hlt hs1
  have hl1' : b' < w1.heap.size := Nat.lt_of_lt_of_le hlt' hs1
  clear hb1
  have q1 := keepc hB1 hx2
  have q2 := keepc hB1 hy2
  have q3 := keepc hB1 hz2
  have q4 := keepc hB1 hx2'
  have q5 := keepc hB1 hy2'
  have q6 := keepc hB1 hz2'
  go_wp2_with fail
  rw [rounds_succ]
  go_wp2_with fail
  refine (ihg A A' _ _ _ (hgH.out.grew (B := w.heap.size) (by (repeat (first | exact Below.refl _ _ | assumption | exact below_step (by assumption) (by assumption) | (refine Below.drew ?_) | (refine below_drewN ?_ _) | (refine Below.alloc ?_ (by first | omega | (simp; done) | (simp; omega)) _) | (refine Below.setCell ?_ (by first | omega | (simp; done) | (simp; omega)) _) | (refine Below.trans ?_ (Below.mono (by assumption) (by first | omega | (simp; done) | (simp; omega))))))) (Nat.le_refl _)) (hgH'.out.grew (B := w.heap.size) (by (repeat (first | exact Below.refl _ _ | assumption | exact below_step (by assumption) (by assumption) | (refine Below.drew ?_) | (refine below_drewN ?_ _) | (refine Below.alloc ?_ (by first | omega | (simp; done) | (simp; omega)) _) | (refine Below.setCell ?_ (by first | omega | (simp; done) | (simp; omega)) _) | (refine Below.trans ?_ (Below.mono (by assumption) (by first | omega | (simp; done) | (simp; omega))))))) (Nat.le_refl _))).mono ?_
  rintro e w2 ⟨rfl, hb2⟩
  have hB2 : Below w.heap.size w w2 := by (repeat (first | exact Below.refl _ _ | assumption | exact below_step (by assumption) (by assumption) | (refine Below.drew ?_) | (refine below_drewN ?_ _) | (refine Below.alloc ?_ (by first | omega | (simp; done) | (simp; omega)) _) | (refine Below.setCell ?_ (by first | omega | (simp; done) | (simp; omega)) _) | (refine Below.trans ?_ (Below.mono (by assumption) (by first | omega | (simp; done) | (simp; omega))))))
  clear hb2
  go_wp2_with fail
  rw [rounds_succ]
  go_wp2_with fail
  go_ret
  exact ⟨rfl, hB2⟩

theorem alike_any (f : Fm) : AlikeSaid f := by
  induction f with
  | layer n =>
    intro A A' w v u hr hu
    obtain rfl := hr
    obtain rfl := hu
    go_enter Tryz.func10, Tryz.ntmps10
    go_wp2_with (go_at_call 34; refine (eqf_alike_none _ _ _ _ _).mono ?_; rintro e w1 ⟨rfl, hb1⟩)
    go_ret
    exact ⟨rfl, by (repeat (first | exact Below.refl _ _ | assumption | exact below_step (by assumption) (by assumption) | (refine Below.drew ?_) | (refine below_drewN ?_ _) | (refine Below.alloc ?_ (by first | omega | (simp; done) | (simp; omega)) _) | (refine Below.setCell ?_ (by first | omega | (simp; done) | (simp; omega)) _) | (refine Below.trans ?_ (Below.mono (by assumption) (by first | omega | (simp; done) | (simp; omega))))))⟩
  | not f ih =>
    intro A A' w v u hr hu
    obtain ⟨b, off, c, x, y, z, rfl, h1, h2, hA, hx, hy, hz, hf⟩ := hr
    obtain ⟨b', off', c', x', y', z', rfl, h1', h2', hA', hx', hy', hz', hf'⟩ := hu
    have hlt := World.block_lt_of_cell? w _ hx
    have hlt' := World.block_lt_of_cell? w _ hx'
    have K := fun (W : World) (hB : Below w.heap.size w W) => eqf_alike_one f ih A A' W b off c b' off' c' x y z x' y' z' h1 h1' h2 h2' (keepc hB hx) (keepc hB hy) (keepc hB hz) (hf.grew hB (Nat.le_refl _)) (keepc hB hx') (keepc hB hy') (keepc hB hz') (hf'.grew hB (Nat.le_refl _))
    have K' := hid K
    clear K hx hy hz hf hx' hy' hz' hf' ih
    go_enter Tryz.func10, Tryz.ntmps10
    go_wp2_with fail
    refine (K'.out _ (by (repeat (first | exact Below.refl _ _ | assumption | exact below_step (by assumption) (by assumption) | (refine Below.drew ?_) | (refine below_drewN ?_ _) | (refine Below.alloc ?_ (by first | omega | (simp; done) | (simp; omega)) _) | (refine Below.setCell ?_ (by first | omega | (simp; done) | (simp; omega)) _) | (refine Below.trans ?_ (Below.mono (by assumption) (by first | omega | (simp; done) | (simp; omega)))))))).mono ?_
    rintro e w1 ⟨rfl, hb1⟩
    go_wp2_with fail
    go_ret
    exact ⟨rfl, by (repeat (first | exact Below.refl _ _ | assumption | exact below_step (by assumption) (by assumption) | (refine Below.drew ?_) | (refine below_drewN ?_ _) | (refine Below.alloc ?_ (by first | omega | (simp; done) | (simp; omega)) _) | (refine Below.setCell ?_ (by first | omega | (simp; done) | (simp; omega)) _) | (refine Below.trans ?_ (Below.mono (by assumption) (by first | omega | (simp; done) | (simp; omega))))))⟩
  | bin o f g ih ihg =>
    intro A A' w v u hr hu
    obtain ⟨b, off, c, x, y, z, x2, y2, z2, rfl, h1, h2, hA, hx, hy, hz, hx2, hy2, hz2, hf, hg⟩ := hr
    obtain ⟨b', off', c', x', y', z', x2', y2', z2', rfl, h1', h2', hA', hx', hy', hz', hx2', hy2', hz2', hf', hg'⟩ := hu
    have hlt := World.block_lt_of_cell? w _ hx
    have hlt' := World.block_lt_of_cell? w _ hx'
    have K := fun (W : World) (hB : Below w.heap.size w W) => eqf_alike_two f g ih ihg A A' W b off c b' off' c' x y z x' y' z' x2 y2 z2 x2' y2' z2' h1 h1' h2 h2' (keepc hB hx) (keepc hB hy) (keepc hB hz) (hf.grew hB (Nat.le_refl _)) (keepc hB hx') (keepc hB hy') (keepc hB hz') (hf'.grew hB (Nat.le_refl _))
      (keepc hB hx2) (keepc hB hy2) (keepc hB hz2) (hg.grew hB (Nat.le_refl _)) (keepc hB hx2') (keepc hB hy2') (keepc hB hz2') (hg'.grew hB (Nat.le_refl _))
    have K' := hid K
    clear K hx hy hz hf hx' hy' hz' hf' hx2 hy2 hz2 hg hx2' hy2' hz2' hg' ih ihg
    go_enter Tryz.func10, Tryz.ntmps10
    go_wp2_with fail
    refine (K'.out _ (by (repeat (first | exact Below.refl _ _ | assumption | exact below_step (by assumption) (by assumption) | (refine Below.drew ?_) | (refine below_drewN ?_ _) | (refine Below.alloc ?_ (by first | omega | (simp; done) | (simp; omega)) _) | (refine Below.setCell ?_ (by first | omega | (simp; done) | (simp; omega)) _) | (refine Below.trans ?_ (Below.mono (by assumption) (by first | omega | (simp; done) | (simp; omega)))))))).mono ?_
    rintro e w1 ⟨rfl, hb1⟩
    go_wp2_with fail
    go_ret
    exact ⟨rfl, by (repeat (first | exact Below.refl _ _ | assumption | exact below_step (by assumption) (by assumption) | (refine Below.drew ?_) | (refine below_drewN ?_ _) | (refine Below.alloc ?_ (by first | omega | (simp; done) | (simp; omega)) _) | (refine Below.setCell ?_ (by first | omega | (simp; done) | (simp; omega)) _) | (refine Below.trans ?_ (Below.mono (by assumption) (by first | omega | (simp; done) | (simp; omega))))))⟩

/-- What same comes to of two that are the same. -/
def SameSaid (f : Fm) : Prop := ∀ (A A' : Nat → Prop) (w : World) (v u : Value), Rep A w f v → Rep A' w f u →
  Calls Tryz.prog 35 #[v, u] w fun e w' => e = .returned (.bool true) ∧ Below w.heap.size w w'

theorem eqf_same_none (c d : Nat) (w : World) (a b : Option Addr) :
    Calls Tryz.prog 34 #[.slice a 0 c, .slice b 0 d, .func (.func 35) #[] #[]] w fun e w' => e = .returned (.bool true) ∧ Below w.heap.size w w' := by
  go_enter Tryz.func34, Tryz.ntmps34
  go_wp2_with fail
  refine wp_loop_rounds 1 ?_; rw [rounds_succ]
  go_wp2_with fail
  go_ret
  exact ⟨rfl, by (repeat (first | exact Below.refl _ _ | assumption | exact below_step (by assumption) (by assumption) | (refine Below.drew ?_) | (refine below_drewN ?_ _) | (refine Below.alloc ?_ (by first | omega | (simp; done) | (simp; omega)) _) | (refine Below.setCell ?_ (by first | omega | (simp; done) | (simp; omega)) _) | (refine Below.trans ?_ (Below.mono (by assumption) (by first | omega | (simp; done) | (simp; omega))))))⟩

theorem eqf_same_one (f : Fm) (ih : SameSaid f) (A A' : Nat → Prop) (w : World) (b off c b' off' c' : Nat) (x y z x' y' z' : Value) (_h1 : 1 ≤ c) (_h1' : 1 ≤ c') (_hc4 : 0 ≤ c) (_hc4' : 0 ≤ c')
    (hx : w.cell? ⟨b, off, none⟩ = some x) (hy : w.cell? ⟨b, off + 1, none⟩ = some y) (hz : w.cell? ⟨b, off + 2, none⟩ = some z) (hf : Rep A w f (.agg #[x, y, z]))
    (hx' : w.cell? ⟨b', off', none⟩ = some x') (hy' : w.cell? ⟨b', off' + 1, none⟩ = some y') (hz' : w.cell? ⟨b', off' + 2, none⟩ = some z') (hf' : Rep A' w f (.agg #[x', y', z'])) :
    Calls Tryz.prog 34 #[.slice (some ⟨b, off, none⟩) 1 c, .slice (some ⟨b', off', none⟩) 1 c', .func (.func 35) #[] #[]] w fun e w' => e = .returned (.bool true) ∧ Below w.heap.size w w' := by
  have hlt := World.block_lt_of_cell? w _ hx
  have hlt' := World.block_lt_of_cell? w _ hx'
  obtain ⟨a, n, k, rfl, rfl, rfl⟩ := hf.cells
  obtain ⟨a', n', k', rfl, rfl, rfl⟩ := hf'.cells
  have hfH := hid hf
  have hfH' := hid hf'
  clear hf hf'
  go_enter Tryz.func34, Tryz.ntmps34
  go_wp2_with fail
  refine wp_loop_rounds 2 ?_; rw [rounds_succ]
  go_wp2_with fail
  refine (ih A A' _ _ _ (hfH.out.grew (B := w.heap.size) (by (repeat (first | exact Below.refl _ _ | assumption | exact below_step (by assumption) (by assumption) | (refine Below.drew ?_) | (refine below_drewN ?_ _) | (refine Below.alloc ?_ (by first | omega | (simp; done) | (simp; omega)) _) | (refine Below.setCell ?_ (by first | omega | (simp; done) | (simp; omega)) _) | (refine Below.trans ?_ (Below.mono (by assumption) (by first | omega | (simp; done) | (simp; omega))))))) (Nat.le_refl _)) (hfH'.out.grew (B := w.heap.size) (by (repeat (first | exact Below.refl _ _ | assumption | exact below_step (by assumption) (by assumption) | (refine Below.drew ?_) | (refine below_drewN ?_ _) | (refine Below.alloc ?_ (by first | omega | (simp; done) | (simp; omega)) _) | (refine Below.setCell ?_ (by first | omega | (simp; done) | (simp; omega)) _) | (refine Below.trans ?_ (Below.mono (by assumption) (by first | omega | (simp; done) | (simp; omega))))))) (Nat.le_refl _))).mono ?_
  rintro e w1 ⟨rfl, hb1⟩
  have hB1 : Below w.heap.size w w1 := by (repeat (first | exact Below.refl _ _ | assumption | exact below_step (by assumption) (by assumption) | (refine Below.drew ?_) | (refine below_drewN ?_ _) | (refine Below.alloc ?_ (by first | omega | (simp; done) | (simp; omega)) _) | (refine Below.setCell ?_ (by first | omega | (simp; done) | (simp; omega)) _) | (refine Below.trans ?_ (Below.mono (by assumption) (by first | omega | (simp; done) | (simp; omega))))))
  go_wp2_with fail
  rw [rounds_succ]
  go_wp2_with fail
  go_ret
  exact ⟨rfl, hB1⟩

theorem eqf_same_two (f g : Fm) (ih : SameSaid f) (ihg : SameSaid g) (A A' : Nat → Prop) (w : World) (b off c b' off' c' : Nat) (x y z x' y' z' x2 y2 z2 x2' y2' z2' : Value) (_h1 : 2 ≤ c) (_h1' : 2 ≤ c') (_hc4 : 0 ≤ c) (_hc4' : 0 ≤ c')
    (hx : w.cell? ⟨b, off, none⟩ = some x) (hy : w.cell? ⟨b, off + 1, none⟩ = some y) (hz : w.cell? ⟨b, off + 2, none⟩ = some z) (hf : Rep A w f (.agg #[x, y, z]))
    (hx' : w.cell? ⟨b', off', none⟩ = some x') (hy' : w.cell? ⟨b', off' + 1, none⟩ = some y') (hz' : w.cell? ⟨b', off' + 2, none⟩ = some z') (hf' : Rep A' w f (.agg #[x', y', z']))
    (hx2 : w.cell? ⟨b, off + 3, none⟩ = some x2) (hy2 : w.cell? ⟨b, off + 3 + 1, none⟩ = some y2) (hz2 : w.cell? ⟨b, off + 3 + 2, none⟩ = some z2) (hg : Rep A w g (.agg #[x2, y2, z2]))
    (hx2' : w.cell? ⟨b', off' + 3, none⟩ = some x2') (hy2' : w.cell? ⟨b', off' + 3 + 1, none⟩ = some y2') (hz2' : w.cell? ⟨b', off' + 3 + 2, none⟩ = some z2') (hg' : Rep A' w g (.agg #[x2', y2', z2'])) :
    Calls Tryz.prog 34 #[.slice (some ⟨b, off, none⟩) 2 c, .slice (some ⟨b', off', none⟩) 2 c', .func (.func 35) #[] #[]] w fun e w' => e = .returned (.bool true) ∧ Below w.heap.size w w' := by
  have hlt := World.block_lt_of_cell? w _ hx
  have hlt' := World.block_lt_of_cell? w _ hx'
  obtain ⟨a, n, k, rfl, rfl, rfl⟩ := hf.cells
  obtain ⟨a', n', k', rfl, rfl, rfl⟩ := hf'.cells
  obtain ⟨a2, n2, k2, rfl, rfl, rfl⟩ := hg.cells
  obtain ⟨a2', n2', k2', rfl, rfl, rfl⟩ := hg'.cells
  have hfH := hid hf
  have hfH' := hid hf'
  have hgH := hid hg
  have hgH' := hid hg'
  clear hf hf' hg hg'
  go_enter Tryz.func34, Tryz.ntmps34
  go_wp2_with fail
  refine wp_loop_rounds 3 ?_; rw [rounds_succ]
  go_wp2_with fail
  refine (ih A A' _ _ _ (hfH.out.grew (B := w.heap.size) (by (repeat (first | exact Below.refl _ _ | assumption | exact below_step (by assumption) (by assumption) | (refine Below.drew ?_) | (refine below_drewN ?_ _) | (refine Below.alloc ?_ (by first | omega | (simp; done) | (simp; omega)) _) | (refine Below.setCell ?_ (by first | omega | (simp; done) | (simp; omega)) _) | (refine Below.trans ?_ (Below.mono (by assumption) (by first | omega | (simp; done) | (simp; omega))))))) (Nat.le_refl _)) (hfH'.out.grew (B := w.heap.size) (by (repeat (first | exact Below.refl _ _ | assumption | exact below_step (by assumption) (by assumption) | (refine Below.drew ?_) | (refine below_drewN ?_ _) | (refine Below.alloc ?_ (by first | omega | (simp; done) | (simp; omega)) _) | (refine Below.setCell ?_ (by first | omega | (simp; done) | (simp; omega)) _) | (refine Below.trans ?_ (Below.mono (by assumption) (by first | omega | (simp; done) | (simp; omega))))))) (Nat.le_refl _))).mono ?_
  rintro e w1 ⟨rfl, hb1⟩
  have hB1 : Below w.heap.size w w1 := by (repeat (first | exact Below.refl _ _ | assumption | exact below_step (by assumption) (by assumption) | (refine Below.drew ?_) | (refine below_drewN ?_ _) | (refine Below.alloc ?_ (by first | omega | (simp; done) | (simp; omega)) _) | (refine Below.setCell ?_ (by first | omega | (simp; done) | (simp; omega)) _) | (refine Below.trans ?_ (Below.mono (by assumption) (by first | omega | (simp; done) | (simp; omega))))))
  have hs1 := hB1.size
  have hl1 : b < w1.heap.size := Nat.lt_of_lt_of_le hlt hs1
  have hl1' : b' < w1.heap.size := Nat.lt_of_lt_of_le hlt' hs1
  clear hb1
  have q1 := keepc hB1 hx2
  have q2 := keepc hB1 hy2
  have q3 := keepc hB1 hz2
  have q4 := keepc hB1 hx2'
  have q5 := keepc hB1 hy2'
  have q6 := keepc hB1 hz2'
  go_wp2_with fail
  rw [rounds_succ]
  go_wp2_with fail
  refine (ihg A A' _ _ _ (hgH.out.grew (B := w.heap.size) (by (repeat (first | exact Below.refl _ _ | assumption | exact below_step (by assumption) (by assumption) | (refine Below.drew ?_) | (refine below_drewN ?_ _) | (refine Below.alloc ?_ (by first | omega | (simp; done) | (simp; omega)) _) | (refine Below.setCell ?_ (by first | omega | (simp; done) | (simp; omega)) _) | (refine Below.trans ?_ (Below.mono (by assumption) (by first | omega | (simp; done) | (simp; omega))))))) (Nat.le_refl _)) (hgH'.out.grew (B := w.heap.size) (by (repeat (first | exact Below.refl _ _ | assumption | exact below_step (by assumption) (by assumption) | (refine Below.drew ?_) | (refine below_drewN ?_ _) | (refine Below.alloc ?_ (by first | omega | (simp; done) | (simp; omega)) _) | (refine Below.setCell ?_ (by first | omega | (simp; done) | (simp; omega)) _) | (refine Below.trans ?_ (Below.mono (by assumption) (by first | omega | (simp; done) | (simp; omega))))))) (Nat.le_refl _))).mono ?_
  rintro e w2 ⟨rfl, hb2⟩
  have hB2 : Below w.heap.size w w2 := by (repeat (first | exact Below.refl _ _ | assumption | exact below_step (by assumption) (by assumption) | (refine Below.drew ?_) | (refine below_drewN ?_ _) | (refine Below.alloc ?_ (by first | omega | (simp; done) | (simp; omega)) _) | (refine Below.setCell ?_ (by first | omega | (simp; done) | (simp; omega)) _) | (refine Below.trans ?_ (Below.mono (by assumption) (by first | omega | (simp; done) | (simp; omega))))))
  clear hb2
  go_wp2_with fail
  rw [rounds_succ]
  go_wp2_with fail
  go_ret
  exact ⟨rfl, hB2⟩

theorem same_any (f : Fm) : SameSaid f := by
  induction f with
  | layer n =>
    intro A A' w v u hr hu
    obtain rfl := hr
    obtain rfl := hu
    go_enter Tryz.func35, Tryz.ntmps35
    go_wp2_with (go_at_call 34; refine (eqf_same_none _ _ _ _ _).mono ?_; rintro e w1 ⟨rfl, hb1⟩)
    go_ret
    exact ⟨rfl, by (repeat (first | exact Below.refl _ _ | assumption | exact below_step (by assumption) (by assumption) | (refine Below.drew ?_) | (refine below_drewN ?_ _) | (refine Below.alloc ?_ (by first | omega | (simp; done) | (simp; omega)) _) | (refine Below.setCell ?_ (by first | omega | (simp; done) | (simp; omega)) _) | (refine Below.trans ?_ (Below.mono (by assumption) (by first | omega | (simp; done) | (simp; omega))))))⟩
  | not f ih =>
    intro A A' w v u hr hu
    obtain ⟨b, off, c, x, y, z, rfl, h1, h2, hA, hx, hy, hz, hf⟩ := hr
    obtain ⟨b', off', c', x', y', z', rfl, h1', h2', hA', hx', hy', hz', hf'⟩ := hu
    have hlt := World.block_lt_of_cell? w _ hx
    have hlt' := World.block_lt_of_cell? w _ hx'
    have K := fun (W : World) (hB : Below w.heap.size w W) => eqf_same_one f ih A A' W b off c b' off' c' x y z x' y' z' h1 h1' h2 h2' (keepc hB hx) (keepc hB hy) (keepc hB hz) (hf.grew hB (Nat.le_refl _)) (keepc hB hx') (keepc hB hy') (keepc hB hz') (hf'.grew hB (Nat.le_refl _))
    have K' := hid K
    clear K hx hy hz hf hx' hy' hz' hf' ih
    go_enter Tryz.func35, Tryz.ntmps35
    go_wp2_with fail
    refine (K'.out _ (by (repeat (first | exact Below.refl _ _ | assumption | exact below_step (by assumption) (by assumption) | (refine Below.drew ?_) | (refine below_drewN ?_ _) | (refine Below.alloc ?_ (by first | omega | (simp; done) | (simp; omega)) _) | (refine Below.setCell ?_ (by first | omega | (simp; done) | (simp; omega)) _) | (refine Below.trans ?_ (Below.mono (by assumption) (by first | omega | (simp; done) | (simp; omega)))))))).mono ?_
    rintro e w1 ⟨rfl, hb1⟩
    go_wp2_with fail
    go_ret
    exact ⟨rfl, by (repeat (first | exact Below.refl _ _ | assumption | exact below_step (by assumption) (by assumption) | (refine Below.drew ?_) | (refine below_drewN ?_ _) | (refine Below.alloc ?_ (by first | omega | (simp; done) | (simp; omega)) _) | (refine Below.setCell ?_ (by first | omega | (simp; done) | (simp; omega)) _) | (refine Below.trans ?_ (Below.mono (by assumption) (by first | omega | (simp; done) | (simp; omega))))))⟩
  | bin o f g ih ihg =>
    intro A A' w v u hr hu
    obtain ⟨b, off, c, x, y, z, x2, y2, z2, rfl, h1, h2, hA, hx, hy, hz, hx2, hy2, hz2, hf, hg⟩ := hr
    obtain ⟨b', off', c', x', y', z', x2', y2', z2', rfl, h1', h2', hA', hx', hy', hz', hx2', hy2', hz2', hf', hg'⟩ := hu
    have hlt := World.block_lt_of_cell? w _ hx
    have hlt' := World.block_lt_of_cell? w _ hx'
    have K := fun (W : World) (hB : Below w.heap.size w W) => eqf_same_two f g ih ihg A A' W b off c b' off' c' x y z x' y' z' x2 y2 z2 x2' y2' z2' h1 h1' h2 h2' (keepc hB hx) (keepc hB hy) (keepc hB hz) (hf.grew hB (Nat.le_refl _)) (keepc hB hx') (keepc hB hy') (keepc hB hz') (hf'.grew hB (Nat.le_refl _))
      (keepc hB hx2) (keepc hB hy2) (keepc hB hz2) (hg.grew hB (Nat.le_refl _)) (keepc hB hx2') (keepc hB hy2') (keepc hB hz2') (hg'.grew hB (Nat.le_refl _))
    have K' := hid K
    clear K hx hy hz hf hx' hy' hz' hf' hx2 hy2 hz2 hg hx2' hy2' hz2' hg' ih ihg
    go_enter Tryz.func35, Tryz.ntmps35
    go_wp2_with fail
    refine (K'.out _ (by (repeat (first | exact Below.refl _ _ | assumption | exact below_step (by assumption) (by assumption) | (refine Below.drew ?_) | (refine below_drewN ?_ _) | (refine Below.alloc ?_ (by first | omega | (simp; done) | (simp; omega)) _) | (refine Below.setCell ?_ (by first | omega | (simp; done) | (simp; omega)) _) | (refine Below.trans ?_ (Below.mono (by assumption) (by first | omega | (simp; done) | (simp; omega)))))))).mono ?_
    rintro e w1 ⟨rfl, hb1⟩
    go_wp2_with fail
    go_ret
    exact ⟨rfl, by (repeat (first | exact Below.refl _ _ | assumption | exact below_step (by assumption) (by assumption) | (refine Below.drew ?_) | (refine below_drewN ?_ _) | (refine Below.alloc ?_ (by first | omega | (simp; done) | (simp; omega)) _) | (refine Below.setCell ?_ (by first | omega | (simp; done) | (simp; omega)) _) | (refine Below.trans ?_ (Below.mono (by assumption) (by first | omega | (simp; done) | (simp; omega))))))⟩

end Go.Proofs.YtjijlkiilmbdnaaGreatDoor

/- holds of a formula that joins two. -/
import Derived.Test.YtjijlkiilmbdnaaGreatDoorHo
namespace Go.Proofs.YtjijlkiilmbdnaaGreatDoor
open Go Go.RowKit

set_option maxRecDepth 100000 in
set_option maxHeartbeats 1600000 in
theorem holds_and (m : Int) (f f' : Fm) (ih : HoldsSaid m f) (ih' : HoldsSaid m f') (A : Nat → Prop) (w : World) (v : Value) (hr : Rep A w (.bin 3 f f') v) :
    Calls Tryz.prog 45 #[v, .int .u16 m] w fun e w' => e = .returned (.bool (joinOf 3 (f.holds m) (f'.holds m))) ∧ Below w.heap.size w w' := by
  obtain ⟨b, off, cap, x, y, z, x', y', z', rfl, h1, h2, hA, hx, hy, hz, hx', hy', hz', hf, hg⟩ := hr
  have hlt := World.block_lt_of_cell? w _ hx
  obtain ⟨a, n, c, rfl, rfl, rfl⟩ := hf.cells
  obtain ⟨a', n', c', rfl, rfl, rfl⟩ := hg.cells
  have hf' := hid hf
  have hg' := hid hg
  clear hf hg
  obtain ⟨i0, hi, hz0, hz1, hz2⟩ := info_parts infoBool
  have x2 := says_at3
  go_enter Tryz.func45, Tryz.ntmps45
  go_wp2_with fail
  refine wp_loop_rounds 3 ?_; rw [rounds_succ]
  go_wp2_with fail
  refine (ih A _ _ (hf'.out.grew (B := w.heap.size) (by (repeat (first | exact Below.refl _ _ | assumption | exact below_step (by assumption) (by assumption) | (refine Below.drew ?_) | (refine below_drewN ?_ _) | (refine Below.alloc ?_ (by first | omega | (simp; done) | (simp; omega)) _) | (refine Below.setCell ?_ (by first | omega | (simp; done) | (simp; omega)) _) | (refine Below.trans ?_ (Below.mono (by assumption) (by first | omega | (simp; done) | (simp; omega))))))) (Nat.le_refl _))).mono ?_
  rintro e w1 ⟨rfl, hb1⟩
  have hB1 : Below w.heap.size w w1 := by (repeat (first | exact Below.refl _ _ | assumption | exact below_step (by assumption) (by assumption) | (refine Below.drew ?_) | (refine below_drewN ?_ _) | (refine Below.alloc ?_ (by first | omega | (simp; done) | (simp; omega)) _) | (refine Below.setCell ?_ (by first | omega | (simp; done) | (simp; omega)) _) | (refine Below.trans ?_ (Below.mono (by assumption) (by first | omega | (simp; done) | (simp; omega))))))
  have hs1 : w.heap.size + 1 < w1.heap.size := by have := hb1.size; simp at this; omega
  have k2 : w1.cell? ⟨w.heap.size, 0, none⟩ = some (.int .i64 3) := by rw [hb1.cell (by first | omega | (simp; done) | (simp; omega))]; simp [go_sem]
  have kx := keepc hB1 hx'
  have ky := keepc hB1 hy'
  have kz := keepc hB1 hz'
  clear hb1 hf'
  go_wp2_with (at_builtin; refine wpList_append_own _ rfl _ _ 92 rfl (w.heap.size + 2) 4 i0 (.bool false) 1 1 Tryz.underlying92 hi hz0 hz1 hz2 rfl (by decide) _ _ _ rfl (World.ownsRow_nil _ _ _ _) ⟨w1.heap.size, 0, none⟩ 1 1 [.bool (f.holds m)] rfl rfl (cell_one_new _ _ _) (fun x hx => by simp at hx; subst hx; rfl) (by unfold maxLen; omega) (by omega) (by simp; omega) ?_; intro v' w3 hown' hgrow3 hnil3)
  have hB3 : Below w.heap.size w w3 := (hB1.alloc (by omega) _).grown hgrow3 (by simp; omega) (fun k hk => by cases hk)
  have hs3 := hgrow3.size
  simp at hs3
  have k3 := hgrow3.cell (a := ⟨w.heap.size, 0, none⟩) ((World.cell?_alloc_past _ _ _ (by omega)).trans k2) (fun h => by cases h)
  clear hgrow3 hnil3 k2 kx ky kz
  have kx := keepc hB3 hx'
  have ky := keepc hB3 hy'
  have kz := keepc hB3 hz'
  rw [rounds_succ]
  go_wp2_with fail
  refine (ih' A _ _ (hg'.out.grew (B := w.heap.size) (by (repeat (first | exact Below.refl _ _ | assumption | exact below_step (by assumption) (by assumption) | (refine Below.drew ?_) | (refine below_drewN ?_ _) | (refine Below.alloc ?_ (by first | omega | (simp; done) | (simp; omega)) _) | (refine Below.setCell ?_ (by first | omega | (simp; done) | (simp; omega)) _) | (refine Below.trans ?_ (Below.mono (by assumption) (by first | omega | (simp; done) | (simp; omega))))))) (Nat.le_refl _))).mono ?_
  rintro e w4 ⟨rfl, hb4⟩
  have hB4 : Below w.heap.size w w4 := by (repeat (first | exact Below.refl _ _ | assumption | exact below_step (by assumption) (by assumption) | (refine Below.drew ?_) | (refine below_drewN ?_ _) | (refine Below.alloc ?_ (by first | omega | (simp; done) | (simp; omega)) _) | (refine Below.setCell ?_ (by first | omega | (simp; done) | (simp; omega)) _) | (refine Below.trans ?_ (Below.mono (by assumption) (by first | omega | (simp; done) | (simp; omega))))))
  have hs4 : w3.heap.size < w4.heap.size := by have := hb4.size; simp at this; omega
  have k4 : w4.cell? ⟨w.heap.size, 0, none⟩ = some (.int .i64 3) := by rw [hb4.cell (by first | omega | (simp; done) | (simp; omega))]; exact (World.cell?_alloc_past _ _ _ (by omega)).trans k3
  have hown4 := own_below (hown'.alloc _) hb4
  clear hb4 hg' kx ky kz k3 hown'
  go_wp2_with (at_builtin; refine wpList_append_own _ rfl _ _ 92 rfl (w.heap.size + 2) 4 i0 (.bool false) 1 1 Tryz.underlying92 hi hz0 hz1 hz2 rfl (by decide) _ _ _ rfl (hown4.alloc _) ⟨w4.heap.size, 0, none⟩ 1 1 [.bool (f'.holds m)] rfl rfl (cell_one_new _ _ _) (fun x hx => by simp at hx; subst hx; rfl) (by unfold maxLen; omega) (by omega) (by simp; omega) ?_; intro v'' w5 hown5 hgrow5 hnil5)
  have hge := own_ge hown4
  have hB5 : Below w.heap.size w w5 := (hB4.alloc (by omega) _).grown hgrow5 (by simp; omega) (fun k hk => by have := hge k hk; omega)
  have k5 := hgrow5.cell (a := ⟨w.heap.size, 0, none⟩) ((World.cell?_alloc_past _ _ _ (by omega)).trans k4) (fun h => by have := hge _ h.symm; dsimp only at this; omega)
  clear hgrow5 hnil5 k4 hge
  obtain ⟨g, cg, hv, hg, hcg, hgx, hgy⟩ := row_two rfl hown5
  clear hown5 hown4
  subst hv
  rw [rounds_succ]
  go_wp2_with fail
  go_region_held3 (fun w' => Below w.heap.size w w' ∧ w'.cell? ⟨w.heap.size, 0, none⟩ = some (.int .i64 3) ∧ w'.cell? ⟨g, 0, none⟩ = some (.bool (f.holds m)) ∧ w'.cell? ⟨g, 1, none⟩ = some (.bool (f'.holds m)))
    (first
      | exact ⟨hB5.drew, k5, hgx, hgy⟩
      | (go_split_ands
         refine ⟨?_, ?_, ?_, ?_⟩
         · assumption
         · assumption
         · assumption
         · assumption))
    (first
      | (go_at_call 61; refine (says_any _).mono ?_; rintro e w7 ⟨rfl, hb7⟩; go_split_ands; have k6 := below_step (w := w) (by assumption) hb7; have k8 := keepc hb7 (v := .int .i64 3) (by assumption); have k9 := keepc hb7 (p := ⟨g, 0, none⟩) (v := .bool (f.holds m)) (by assumption); have k10 := keepc hb7 (p := ⟨g, 1, none⟩) (v := .bool (f'.holds m)) (by assumption))
      | (go_at_call 77; refine (says_and _ _ _ _ _ (by assumption) (by assumption)).mono ?_; rintro e w8 ⟨rfl, hb8⟩; have k7 := below_step k6 hb8; have k11 := keepc hb8 k8; have k12 := keepc hb8 k9; have k13 := keepc hb8 k10))
  all_goals
    go_wp2_with fail
    go_ret
    exact ⟨rfl, k7⟩
set_option maxRecDepth 100000 in
set_option maxHeartbeats 1600000 in
theorem holds_minus (m : Int) (f f' : Fm) (ih : HoldsSaid m f) (ih' : HoldsSaid m f') (A : Nat → Prop) (w : World) (v : Value) (hr : Rep A w (.bin 4 f f') v) :
    Calls Tryz.prog 45 #[v, .int .u16 m] w fun e w' => e = .returned (.bool (joinOf 4 (f.holds m) (f'.holds m))) ∧ Below w.heap.size w w' := by
  obtain ⟨b, off, cap, x, y, z, x', y', z', rfl, h1, h2, hA, hx, hy, hz, hx', hy', hz', hf, hg⟩ := hr
  have hlt := World.block_lt_of_cell? w _ hx
  obtain ⟨a, n, c, rfl, rfl, rfl⟩ := hf.cells
  obtain ⟨a', n', c', rfl, rfl, rfl⟩ := hg.cells
  have hf' := hid hf
  have hg' := hid hg
  clear hf hg
  obtain ⟨i0, hi, hz0, hz1, hz2⟩ := info_parts infoBool
  have x2 := says_at4
  go_enter Tryz.func45, Tryz.ntmps45
  go_wp2_with fail
  refine wp_loop_rounds 3 ?_; rw [rounds_succ]
  go_wp2_with fail
  refine (ih A _ _ (hf'.out.grew (B := w.heap.size) (by (repeat (first | exact Below.refl _ _ | assumption | exact below_step (by assumption) (by assumption) | (refine Below.drew ?_) | (refine below_drewN ?_ _) | (refine Below.alloc ?_ (by first | omega | (simp; done) | (simp; omega)) _) | (refine Below.setCell ?_ (by first | omega | (simp; done) | (simp; omega)) _) | (refine Below.trans ?_ (Below.mono (by assumption) (by first | omega | (simp; done) | (simp; omega))))))) (Nat.le_refl _))).mono ?_
  rintro e w1 ⟨rfl, hb1⟩
  have hB1 : Below w.heap.size w w1 := by (repeat (first | exact Below.refl _ _ | assumption | exact below_step (by assumption) (by assumption) | (refine Below.drew ?_) | (refine below_drewN ?_ _) | (refine Below.alloc ?_ (by first | omega | (simp; done) | (simp; omega)) _) | (refine Below.setCell ?_ (by first | omega | (simp; done) | (simp; omega)) _) | (refine Below.trans ?_ (Below.mono (by assumption) (by first | omega | (simp; done) | (simp; omega))))))
  have hs1 : w.heap.size + 1 < w1.heap.size := by have := hb1.size; simp at this; omega
  have k2 : w1.cell? ⟨w.heap.size, 0, none⟩ = some (.int .i64 4) := by rw [hb1.cell (by first | omega | (simp; done) | (simp; omega))]; simp [go_sem]
  have kx := keepc hB1 hx'
  have ky := keepc hB1 hy'
  have kz := keepc hB1 hz'
  clear hb1 hf'
  go_wp2_with (at_builtin; refine wpList_append_own _ rfl _ _ 92 rfl (w.heap.size + 2) 4 i0 (.bool false) 1 1 Tryz.underlying92 hi hz0 hz1 hz2 rfl (by decide) _ _ _ rfl (World.ownsRow_nil _ _ _ _) ⟨w1.heap.size, 0, none⟩ 1 1 [.bool (f.holds m)] rfl rfl (cell_one_new _ _ _) (fun x hx => by simp at hx; subst hx; rfl) (by unfold maxLen; omega) (by omega) (by simp; omega) ?_; intro v' w3 hown' hgrow3 hnil3)
  have hB3 : Below w.heap.size w w3 := (hB1.alloc (by omega) _).grown hgrow3 (by simp; omega) (fun k hk => by cases hk)
  have hs3 := hgrow3.size
  simp at hs3
  have k3 := hgrow3.cell (a := ⟨w.heap.size, 0, none⟩) ((World.cell?_alloc_past _ _ _ (by omega)).trans k2) (fun h => by cases h)
  clear hgrow3 hnil3 k2 kx ky kz
  have kx := keepc hB3 hx'
  have ky := keepc hB3 hy'
  have kz := keepc hB3 hz'
  rw [rounds_succ]
  go_wp2_with fail
  refine (ih' A _ _ (hg'.out.grew (B := w.heap.size) (by (repeat (first | exact Below.refl _ _ | assumption | exact below_step (by assumption) (by assumption) | (refine Below.drew ?_) | (refine below_drewN ?_ _) | (refine Below.alloc ?_ (by first | omega | (simp; done) | (simp; omega)) _) | (refine Below.setCell ?_ (by first | omega | (simp; done) | (simp; omega)) _) | (refine Below.trans ?_ (Below.mono (by assumption) (by first | omega | (simp; done) | (simp; omega))))))) (Nat.le_refl _))).mono ?_
  rintro e w4 ⟨rfl, hb4⟩
  have hB4 : Below w.heap.size w w4 := by (repeat (first | exact Below.refl _ _ | assumption | exact below_step (by assumption) (by assumption) | (refine Below.drew ?_) | (refine below_drewN ?_ _) | (refine Below.alloc ?_ (by first | omega | (simp; done) | (simp; omega)) _) | (refine Below.setCell ?_ (by first | omega | (simp; done) | (simp; omega)) _) | (refine Below.trans ?_ (Below.mono (by assumption) (by first | omega | (simp; done) | (simp; omega))))))
  have hs4 : w3.heap.size < w4.heap.size := by have := hb4.size; simp at this; omega
  have k4 : w4.cell? ⟨w.heap.size, 0, none⟩ = some (.int .i64 4) := by rw [hb4.cell (by first | omega | (simp; done) | (simp; omega))]; exact (World.cell?_alloc_past _ _ _ (by omega)).trans k3
  have hown4 := own_below (hown'.alloc _) hb4
  clear hb4 hg' kx ky kz k3 hown'
  go_wp2_with (at_builtin; refine wpList_append_own _ rfl _ _ 92 rfl (w.heap.size + 2) 4 i0 (.bool false) 1 1 Tryz.underlying92 hi hz0 hz1 hz2 rfl (by decide) _ _ _ rfl (hown4.alloc _) ⟨w4.heap.size, 0, none⟩ 1 1 [.bool (f'.holds m)] rfl rfl (cell_one_new _ _ _) (fun x hx => by simp at hx; subst hx; rfl) (by unfold maxLen; omega) (by omega) (by simp; omega) ?_; intro v'' w5 hown5 hgrow5 hnil5)
  have hge := own_ge hown4
  have hB5 : Below w.heap.size w w5 := (hB4.alloc (by omega) _).grown hgrow5 (by simp; omega) (fun k hk => by have := hge k hk; omega)
  have k5 := hgrow5.cell (a := ⟨w.heap.size, 0, none⟩) ((World.cell?_alloc_past _ _ _ (by omega)).trans k4) (fun h => by have := hge _ h.symm; dsimp only at this; omega)
  clear hgrow5 hnil5 k4 hge
  obtain ⟨g, cg, hv, hg, hcg, hgx, hgy⟩ := row_two rfl hown5
  clear hown5 hown4
  subst hv
  rw [rounds_succ]
  go_wp2_with fail
  go_region_held3 (fun w' => Below w.heap.size w w' ∧ w'.cell? ⟨w.heap.size, 0, none⟩ = some (.int .i64 4) ∧ w'.cell? ⟨g, 0, none⟩ = some (.bool (f.holds m)) ∧ w'.cell? ⟨g, 1, none⟩ = some (.bool (f'.holds m)))
    (first
      | exact ⟨hB5.drew, k5, hgx, hgy⟩
      | (go_split_ands
         refine ⟨?_, ?_, ?_, ?_⟩
         · assumption
         · assumption
         · assumption
         · assumption))
    (first
      | (go_at_call 61; refine (says_any _).mono ?_; rintro e w7 ⟨rfl, hb7⟩; go_split_ands; have k6 := below_step (w := w) (by assumption) hb7; have k8 := keepc hb7 (v := .int .i64 4) (by assumption); have k9 := keepc hb7 (p := ⟨g, 0, none⟩) (v := .bool (f.holds m)) (by assumption); have k10 := keepc hb7 (p := ⟨g, 1, none⟩) (v := .bool (f'.holds m)) (by assumption))
      | (go_at_call 78; refine (says_minus _ _ _ _ _ (by assumption) (by assumption)).mono ?_; rintro e w8 ⟨rfl, hb8⟩; have k7 := below_step k6 hb8; have k11 := keepc hb8 k8; have k12 := keepc hb8 k9; have k13 := keepc hb8 k10))
  all_goals
    go_wp2_with fail
    go_ret
    exact ⟨rfl, k7⟩
set_option maxRecDepth 100000 in
set_option maxHeartbeats 1600000 in
theorem holds_xor (m : Int) (f f' : Fm) (ih : HoldsSaid m f) (ih' : HoldsSaid m f') (A : Nat → Prop) (w : World) (v : Value) (hr : Rep A w (.bin 5 f f') v) :
    Calls Tryz.prog 45 #[v, .int .u16 m] w fun e w' => e = .returned (.bool (joinOf 5 (f.holds m) (f'.holds m))) ∧ Below w.heap.size w w' := by
  obtain ⟨b, off, cap, x, y, z, x', y', z', rfl, h1, h2, hA, hx, hy, hz, hx', hy', hz', hf, hg⟩ := hr
  have hlt := World.block_lt_of_cell? w _ hx
  obtain ⟨a, n, c, rfl, rfl, rfl⟩ := hf.cells
  obtain ⟨a', n', c', rfl, rfl, rfl⟩ := hg.cells
  have hf' := hid hf
  have hg' := hid hg
  clear hf hg
  obtain ⟨i0, hi, hz0, hz1, hz2⟩ := info_parts infoBool
  have x2 := says_at5
  go_enter Tryz.func45, Tryz.ntmps45
  go_wp2_with fail
  refine wp_loop_rounds 3 ?_; rw [rounds_succ]
  go_wp2_with fail
  refine (ih A _ _ (hf'.out.grew (B := w.heap.size) (by (repeat (first | exact Below.refl _ _ | assumption | exact below_step (by assumption) (by assumption) | (refine Below.drew ?_) | (refine below_drewN ?_ _) | (refine Below.alloc ?_ (by first | omega | (simp; done) | (simp; omega)) _) | (refine Below.setCell ?_ (by first | omega | (simp; done) | (simp; omega)) _) | (refine Below.trans ?_ (Below.mono (by assumption) (by first | omega | (simp; done) | (simp; omega))))))) (Nat.le_refl _))).mono ?_
  rintro e w1 ⟨rfl, hb1⟩
  have hB1 : Below w.heap.size w w1 := by (repeat (first | exact Below.refl _ _ | assumption | exact below_step (by assumption) (by assumption) | (refine Below.drew ?_) | (refine below_drewN ?_ _) | (refine Below.alloc ?_ (by first | omega | (simp; done) | (simp; omega)) _) | (refine Below.setCell ?_ (by first | omega | (simp; done) | (simp; omega)) _) | (refine Below.trans ?_ (Below.mono (by assumption) (by first | omega | (simp; done) | (simp; omega))))))
  have hs1 : w.heap.size + 1 < w1.heap.size := by have := hb1.size; simp at this; omega
  have k2 : w1.cell? ⟨w.heap.size, 0, none⟩ = some (.int .i64 5) := by rw [hb1.cell (by first | omega | (simp; done) | (simp; omega))]; simp [go_sem]
  have kx := keepc hB1 hx'
  have ky := keepc hB1 hy'
  have kz := keepc hB1 hz'
  clear hb1 hf'
  go_wp2_with (at_builtin; refine wpList_append_own _ rfl _ _ 92 rfl (w.heap.size + 2) 4 i0 (.bool false) 1 1 Tryz.underlying92 hi hz0 hz1 hz2 rfl (by decide) _ _ _ rfl (World.ownsRow_nil _ _ _ _) ⟨w1.heap.size, 0, none⟩ 1 1 [.bool (f.holds m)] rfl rfl (cell_one_new _ _ _) (fun x hx => by simp at hx; subst hx; rfl) (by unfold maxLen; omega) (by omega) (by simp; omega) ?_; intro v' w3 hown' hgrow3 hnil3)
  have hB3 : Below w.heap.size w w3 := (hB1.alloc (by omega) _).grown hgrow3 (by simp; omega) (fun k hk => by cases hk)
  have hs3 := hgrow3.size
  simp at hs3
  have k3 := hgrow3.cell (a := ⟨w.heap.size, 0, none⟩) ((World.cell?_alloc_past _ _ _ (by omega)).trans k2) (fun h => by cases h)
  clear hgrow3 hnil3 k2 kx ky kz
  have kx := keepc hB3 hx'
  have ky := keepc hB3 hy'
  have kz := keepc hB3 hz'
  rw [rounds_succ]
  go_wp2_with fail
  refine (ih' A _ _ (hg'.out.grew (B := w.heap.size) (by (repeat (first | exact Below.refl _ _ | assumption | exact below_step (by assumption) (by assumption) | (refine Below.drew ?_) | (refine below_drewN ?_ _) | (refine Below.alloc ?_ (by first | omega | (simp; done) | (simp; omega)) _) | (refine Below.setCell ?_ (by first | omega | (simp; done) | (simp; omega)) _) | (refine Below.trans ?_ (Below.mono (by assumption) (by first | omega | (simp; done) | (simp; omega))))))) (Nat.le_refl _))).mono ?_
  rintro e w4 ⟨rfl, hb4⟩
  have hB4 : Below w.heap.size w w4 := by (repeat (first | exact Below.refl _ _ | assumption | exact below_step (by assumption) (by assumption) | (refine Below.drew ?_) | (refine below_drewN ?_ _) | (refine Below.alloc ?_ (by first | omega | (simp; done) | (simp; omega)) _) | (refine Below.setCell ?_ (by first | omega | (simp; done) | (simp; omega)) _) | (refine Below.trans ?_ (Below.mono (by assumption) (by first | omega | (simp; done) | (simp; omega))))))
  have hs4 : w3.heap.size < w4.heap.size := by have := hb4.size; simp at this; omega
  have k4 : w4.cell? ⟨w.heap.size, 0, none⟩ = some (.int .i64 5) := by rw [hb4.cell (by first | omega | (simp; done) | (simp; omega))]; exact (World.cell?_alloc_past _ _ _ (by omega)).trans k3
  have hown4 := own_below (hown'.alloc _) hb4
  clear hb4 hg' kx ky kz k3 hown'
  go_wp2_with (at_builtin; refine wpList_append_own _ rfl _ _ 92 rfl (w.heap.size + 2) 4 i0 (.bool false) 1 1 Tryz.underlying92 hi hz0 hz1 hz2 rfl (by decide) _ _ _ rfl (hown4.alloc _) ⟨w4.heap.size, 0, none⟩ 1 1 [.bool (f'.holds m)] rfl rfl (cell_one_new _ _ _) (fun x hx => by simp at hx; subst hx; rfl) (by unfold maxLen; omega) (by omega) (by simp; omega) ?_; intro v'' w5 hown5 hgrow5 hnil5)
  have hge := own_ge hown4
  have hB5 : Below w.heap.size w w5 := (hB4.alloc (by omega) _).grown hgrow5 (by simp; omega) (fun k hk => by have := hge k hk; omega)
  have k5 := hgrow5.cell (a := ⟨w.heap.size, 0, none⟩) ((World.cell?_alloc_past _ _ _ (by omega)).trans k4) (fun h => by have := hge _ h.symm; dsimp only at this; omega)
  clear hgrow5 hnil5 k4 hge
  obtain ⟨g, cg, hv, hg, hcg, hgx, hgy⟩ := row_two rfl hown5
  clear hown5 hown4
  subst hv
  rw [rounds_succ]
  go_wp2_with fail
  go_region_held3 (fun w' => Below w.heap.size w w' ∧ w'.cell? ⟨w.heap.size, 0, none⟩ = some (.int .i64 5) ∧ w'.cell? ⟨g, 0, none⟩ = some (.bool (f.holds m)) ∧ w'.cell? ⟨g, 1, none⟩ = some (.bool (f'.holds m)))
    (first
      | exact ⟨hB5.drew, k5, hgx, hgy⟩
      | (go_split_ands
         refine ⟨?_, ?_, ?_, ?_⟩
         · assumption
         · assumption
         · assumption
         · assumption))
    (first
      | (go_at_call 61; refine (says_any _).mono ?_; rintro e w7 ⟨rfl, hb7⟩; go_split_ands; have k6 := below_step (w := w) (by assumption) hb7; have k8 := keepc hb7 (v := .int .i64 5) (by assumption); have k9 := keepc hb7 (p := ⟨g, 0, none⟩) (v := .bool (f.holds m)) (by assumption); have k10 := keepc hb7 (p := ⟨g, 1, none⟩) (v := .bool (f'.holds m)) (by assumption))
      | (go_at_call 79; refine (says_xor _ _ _ _ _ (by assumption) (by assumption)).mono ?_; rintro e w8 ⟨rfl, hb8⟩; have k7 := below_step k6 hb8; have k11 := keepc hb8 k8; have k12 := keepc hb8 k9; have k13 := keepc hb8 k10))
  all_goals
    go_wp2_with fail
    go_ret
    exact ⟨rfl, k7⟩
set_option maxRecDepth 100000 in
set_option maxHeartbeats 1600000 in
theorem holds_or (m : Int) (f f' : Fm) (ih : HoldsSaid m f) (ih' : HoldsSaid m f') (A : Nat → Prop) (w : World) (v : Value) (hr : Rep A w (.bin 6 f f') v) :
    Calls Tryz.prog 45 #[v, .int .u16 m] w fun e w' => e = .returned (.bool (joinOf 6 (f.holds m) (f'.holds m))) ∧ Below w.heap.size w w' := by
  obtain ⟨b, off, cap, x, y, z, x', y', z', rfl, h1, h2, hA, hx, hy, hz, hx', hy', hz', hf, hg⟩ := hr
  have hlt := World.block_lt_of_cell? w _ hx
  obtain ⟨a, n, c, rfl, rfl, rfl⟩ := hf.cells
  obtain ⟨a', n', c', rfl, rfl, rfl⟩ := hg.cells
  have hf' := hid hf
  have hg' := hid hg
  clear hf hg
  obtain ⟨i0, hi, hz0, hz1, hz2⟩ := info_parts infoBool
  have x2 := says_at6
  go_enter Tryz.func45, Tryz.ntmps45
  go_wp2_with fail
  refine wp_loop_rounds 3 ?_; rw [rounds_succ]
  go_wp2_with fail
  refine (ih A _ _ (hf'.out.grew (B := w.heap.size) (by (repeat (first | exact Below.refl _ _ | assumption | exact below_step (by assumption) (by assumption) | (refine Below.drew ?_) | (refine below_drewN ?_ _) | (refine Below.alloc ?_ (by first | omega | (simp; done) | (simp; omega)) _) | (refine Below.setCell ?_ (by first | omega | (simp; done) | (simp; omega)) _) | (refine Below.trans ?_ (Below.mono (by assumption) (by first | omega | (simp; done) | (simp; omega))))))) (Nat.le_refl _))).mono ?_
  rintro e w1 ⟨rfl, hb1⟩
  have hB1 : Below w.heap.size w w1 := by (repeat (first | exact Below.refl _ _ | assumption | exact below_step (by assumption) (by assumption) | (refine Below.drew ?_) | (refine below_drewN ?_ _) | (refine Below.alloc ?_ (by first | omega | (simp; done) | (simp; omega)) _) | (refine Below.setCell ?_ (by first | omega | (simp; done) | (simp; omega)) _) | (refine Below.trans ?_ (Below.mono (by assumption) (by first | omega | (simp; done) | (simp; omega))))))
  have hs1 : w.heap.size + 1 < w1.heap.size := by have := hb1.size; simp at this; omega
  have k2 : w1.cell? ⟨w.heap.size, 0, none⟩ = some (.int .i64 6) := by rw [hb1.cell (by first | omega | (simp; done) | (simp; omega))]; simp [go_sem]
  have kx := keepc hB1 hx'
  have ky := keepc hB1 hy'
  have kz := keepc hB1 hz'
  clear hb1 hf'
  go_wp2_with (at_builtin; refine wpList_append_own _ rfl _ _ 92 rfl (w.heap.size + 2) 4 i0 (.bool false) 1 1 Tryz.underlying92 hi hz0 hz1 hz2 rfl (by decide) _ _ _ rfl (World.ownsRow_nil _ _ _ _) ⟨w1.heap.size, 0, none⟩ 1 1 [.bool (f.holds m)] rfl rfl (cell_one_new _ _ _) (fun x hx => by simp at hx; subst hx; rfl) (by unfold maxLen; omega) (by omega) (by simp; omega) ?_; intro v' w3 hown' hgrow3 hnil3)
  have hB3 : Below w.heap.size w w3 := (hB1.alloc (by omega) _).grown hgrow3 (by simp; omega) (fun k hk => by cases hk)
  have hs3 := hgrow3.size
  simp at hs3
  have k3 := hgrow3.cell (a := ⟨w.heap.size, 0, none⟩) ((World.cell?_alloc_past _ _ _ (by omega)).trans k2) (fun h => by cases h)
  clear hgrow3 hnil3 k2 kx ky kz
  have kx := keepc hB3 hx'
  have ky := keepc hB3 hy'
  have kz := keepc hB3 hz'
  rw [rounds_succ]
  go_wp2_with fail
  refine (ih' A _ _ (hg'.out.grew (B := w.heap.size) (by (repeat (first | exact Below.refl _ _ | assumption | exact below_step (by assumption) (by assumption) | (refine Below.drew ?_) | (refine below_drewN ?_ _) | (refine Below.alloc ?_ (by first | omega | (simp; done) | (simp; omega)) _) | (refine Below.setCell ?_ (by first | omega | (simp; done) | (simp; omega)) _) | (refine Below.trans ?_ (Below.mono (by assumption) (by first | omega | (simp; done) | (simp; omega))))))) (Nat.le_refl _))).mono ?_
  rintro e w4 ⟨rfl, hb4⟩
  have hB4 : Below w.heap.size w w4 := by (repeat (first | exact Below.refl _ _ | assumption | exact below_step (by assumption) (by assumption) | (refine Below.drew ?_) | (refine below_drewN ?_ _) | (refine Below.alloc ?_ (by first | omega | (simp; done) | (simp; omega)) _) | (refine Below.setCell ?_ (by first | omega | (simp; done) | (simp; omega)) _) | (refine Below.trans ?_ (Below.mono (by assumption) (by first | omega | (simp; done) | (simp; omega))))))
  have hs4 : w3.heap.size < w4.heap.size := by have := hb4.size; simp at this; omega
  have k4 : w4.cell? ⟨w.heap.size, 0, none⟩ = some (.int .i64 6) := by rw [hb4.cell (by first | omega | (simp; done) | (simp; omega))]; exact (World.cell?_alloc_past _ _ _ (by omega)).trans k3
  have hown4 := own_below (hown'.alloc _) hb4
  clear hb4 hg' kx ky kz k3 hown'
  go_wp2_with (at_builtin; refine wpList_append_own _ rfl _ _ 92 rfl (w.heap.size + 2) 4 i0 (.bool false) 1 1 Tryz.underlying92 hi hz0 hz1 hz2 rfl (by decide) _ _ _ rfl (hown4.alloc _) ⟨w4.heap.size, 0, none⟩ 1 1 [.bool (f'.holds m)] rfl rfl (cell_one_new _ _ _) (fun x hx => by simp at hx; subst hx; rfl) (by unfold maxLen; omega) (by omega) (by simp; omega) ?_; intro v'' w5 hown5 hgrow5 hnil5)
  have hge := own_ge hown4
  have hB5 : Below w.heap.size w w5 := (hB4.alloc (by omega) _).grown hgrow5 (by simp; omega) (fun k hk => by have := hge k hk; omega)
  have k5 := hgrow5.cell (a := ⟨w.heap.size, 0, none⟩) ((World.cell?_alloc_past _ _ _ (by omega)).trans k4) (fun h => by have := hge _ h.symm; dsimp only at this; omega)
  clear hgrow5 hnil5 k4 hge
  obtain ⟨g, cg, hv, hg, hcg, hgx, hgy⟩ := row_two rfl hown5
  clear hown5 hown4
  subst hv
  rw [rounds_succ]
  go_wp2_with fail
  go_region_held3 (fun w' => Below w.heap.size w w' ∧ w'.cell? ⟨w.heap.size, 0, none⟩ = some (.int .i64 6) ∧ w'.cell? ⟨g, 0, none⟩ = some (.bool (f.holds m)) ∧ w'.cell? ⟨g, 1, none⟩ = some (.bool (f'.holds m)))
    (first
      | exact ⟨hB5.drew, k5, hgx, hgy⟩
      | (go_split_ands
         refine ⟨?_, ?_, ?_, ?_⟩
         · assumption
         · assumption
         · assumption
         · assumption))
    (first
      | (go_at_call 61; refine (says_any _).mono ?_; rintro e w7 ⟨rfl, hb7⟩; go_split_ands; have k6 := below_step (w := w) (by assumption) hb7; have k8 := keepc hb7 (v := .int .i64 6) (by assumption); have k9 := keepc hb7 (p := ⟨g, 0, none⟩) (v := .bool (f.holds m)) (by assumption); have k10 := keepc hb7 (p := ⟨g, 1, none⟩) (v := .bool (f'.holds m)) (by assumption))
      | (go_at_call 80; refine (says_or _ _ _ _ _ (by assumption) (by assumption)).mono ?_; rintro e w8 ⟨rfl, hb8⟩; have k7 := below_step k6 hb8; have k11 := keepc hb8 k8; have k12 := keepc hb8 k9; have k13 := keepc hb8 k10))
  all_goals
    go_wp2_with fail
    go_ret
    exact ⟨rfl, k7⟩

theorem holds_any (m : Int) (h0 : 0 ≤ m) (hm : m < 65536) (f : Fm) (hok : f.ok) : HoldsSaid m f := by
  induction f with
  | layer n => intro A w v hr; obtain rfl := hr; exact holds_layer m n hok h0 hm w
  | not f ih => intro A w v hr; exact holds_not m f (ih hok) A w v hr
  | bin o f g ih ihg =>
    intro A w v hr
    obtain ⟨h3, h6, hf, hg⟩ := hok
    obtain rfl | rfl | rfl | rfl : o = 3 ∨ o = 4 ∨ o = 5 ∨ o = 6 := by omega
    · exact holds_and m f g (ih hf) (ihg hg) A w v hr
    · exact holds_minus m f g (ih hf) (ihg hg) A w v hr
    · exact holds_xor m f g (ih hf) (ihg hg) A w v hr
    · exact holds_or m f g (ih hf) (ihg hg) A w v hr

theorem Holds_any (m : Int) (h0 : 0 ≤ m) (hm : m < 65536) (f : Fm) (hok : f.ok) (hd : f.depth ≤ 32) (hp : f.parts ≤ 512) (A : Nat → Prop) (w : World) (v : Value) (hr : Rep A w f v) :
    Calls Tryz.prog 19 #[v, .int .u16 m] w fun e w' => e = .returned (.tuple #[.bool (f.holds m), .int .i64 0]) ∧ Below w.heap.size w w' := by
  obtain ⟨a, n, c, rfl⟩ := hr.agg
  have hr' := hid hr
  clear hr
  go_enter Tryz.func19, Tryz.ntmps19
  go_wp2_with fail
  refine (check_ok f hok hd hp A _ _ (hr'.out.grew (B := w.heap.size) (by (repeat (first | exact Below.refl _ _ | assumption | exact below_step (by assumption) (by assumption) | (refine Below.drew ?_) | (refine below_drewN ?_ _) | (refine Below.alloc ?_ (by first | omega | (simp; done) | (simp; omega)) _) | (refine Below.setCell ?_ (by first | omega | (simp; done) | (simp; omega)) _) | (refine Below.trans ?_ (Below.mono (by assumption) (by first | omega | (simp; done) | (simp; omega))))))) (Nat.le_refl _))).mono ?_
  rintro e w1 ⟨rfl, hb1⟩
  have hB1 : Below w.heap.size w w1 := by (repeat (first | exact Below.refl _ _ | assumption | exact below_step (by assumption) (by assumption) | (refine Below.drew ?_) | (refine below_drewN ?_ _) | (refine Below.alloc ?_ (by first | omega | (simp; done) | (simp; omega)) _) | (refine Below.setCell ?_ (by first | omega | (simp; done) | (simp; omega)) _) | (refine Below.trans ?_ (Below.mono (by assumption) (by first | omega | (simp; done) | (simp; omega))))))
  have k1 : w1.cell? ⟨w.heap.size, 0, none⟩ = some (.int .i64 f.op) := by rw [hb1.cell (by first | omega | (simp; done) | (simp; omega))]; simp [go_sem]
  have k2 : w1.cell? ⟨w.heap.size, 1, none⟩ = some (.int .i64 f.lay) := by rw [hb1.cell (by first | omega | (simp; done) | (simp; omega))]; simp [go_sem]
  have k3 : w1.cell? ⟨w.heap.size, 2, none⟩ = some (.slice a n c) := by rw [hb1.cell (by first | omega | (simp; done) | (simp; omega))]; simp [go_sem]
  clear hb1
  go_wp2_with fail
  refine (holds_any m h0 hm f hok A _ _ (hr'.out.grew hB1 (Nat.le_refl _))).mono ?_
  rintro e w2 ⟨rfl, hb2⟩
  go_wp2_with fail
  go_ret2
  exact ⟨rfl, below_step hB1 hb2⟩

theorem Wide_any (f : Fm) (hok : f.ok) (hd : f.depth ≤ 32) (hp : f.parts ≤ 512) (A : Nat → Prop) (w : World) (v : Value) (hr : Rep A w f v) :
    Calls Tryz.prog 8 #[v] w fun e w' => e = .returned (.tuple #[.bool (f.holds 0), .int .i64 0]) ∧ Below w.heap.size w w' := by
  obtain ⟨a, n, c, rfl⟩ := hr.agg
  have hr' := hid hr
  clear hr
  go_enter Tryz.func8, Tryz.ntmps8
  go_wp2_with fail
  refine (Holds_any 0 (by omega) (by omega) f hok hd hp A _ _ (hr'.out.grew (B := w.heap.size) (by (repeat (first | exact Below.refl _ _ | assumption | exact below_step (by assumption) (by assumption) | (refine Below.drew ?_) | (refine below_drewN ?_ _) | (refine Below.alloc ?_ (by first | omega | (simp; done) | (simp; omega)) _) | (refine Below.setCell ?_ (by first | omega | (simp; done) | (simp; omega)) _) | (refine Below.trans ?_ (Below.mono (by assumption) (by first | omega | (simp; done) | (simp; omega))))))) (Nat.le_refl _))).mono ?_
  rintro e w1 ⟨rfl, hb1⟩
  go_wp2_with fail
  go_ret2
  exact ⟨rfl, by (repeat (first | exact Below.refl _ _ | assumption | exact below_step (by assumption) (by assumption) | (refine Below.drew ?_) | (refine below_drewN ?_ _) | (refine Below.alloc ?_ (by first | omega | (simp; done) | (simp; omega)) _) | (refine Below.setCell ?_ (by first | omega | (simp; done) | (simp; omega)) _) | (refine Below.trans ?_ (Below.mono (by assumption) (by first | omega | (simp; done) | (simp; omega))))))⟩

end Go.Proofs.YtjijlkiilmbdnaaGreatDoor

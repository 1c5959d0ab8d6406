/- says, holds, Holds, Wide: is a formula true of a mask? -/
import Derived.Test.YtjijlkiilmbdnaaGreatDoorCk
import Derived.Deep.RegionHeld3
import Derived.Laws.EntriesVeiled
namespace Go.Proofs.YtjijlkiilmbdnaaGreatDoor
open Go Go.RowKit

/-- What the four say of two. -/
def joinOf (o : Nat) (x y : Bool) : Bool := if o = 3 then x && y else if o = 4 then x && !y else if o = 5 then x != y else x || y

/-- Is a formula true of a mask? -/
def Fm.holds (m : Int) : Fm → Bool
  | .layer n => bits BinOp.and IntKind.u16 (m / 2 ^ n) 1 == 1
  | .not f => !f.holds m
  | .bin o f g => joinOf o (f.holds m) (g.holds m)

theorem says_not (g cap : Nat) (x : Bool) (w : World) (hx : w.cell? ⟨g, 0, none⟩ = some (.bool x)) :
    Calls Tryz.prog 76 #[.slice (some ⟨g, 0, none⟩) 1 cap] w fun e w' => e = .returned (.bool (!x)) ∧ Below w.heap.size w w' := by
  go_enter Tryz.func76, Tryz.ntmps76
  go_wp2_with fail
  go_ret
  exact ⟨rfl, by (repeat (first | exact Below.refl _ _ | assumption | exact below_step (by assumption) (by assumption) | (refine Below.drew ?_) | (refine below_drewN ?_ _) | (refine Below.alloc ?_ (by first | omega | (simp; done) | (simp; omega)) _) | (refine Below.setCell ?_ (by first | omega | (simp; done) | (simp; omega)) _) | (refine Below.trans ?_ (Below.mono (by assumption) (by first | omega | (simp; done) | (simp; omega))))))⟩

theorem says_and (g cap : Nat) (x y : Bool) (w : World) (hx : w.cell? ⟨g, 0, none⟩ = some (.bool x)) (hy : w.cell? ⟨g, 1, none⟩ = some (.bool y)) :
    Calls Tryz.prog 77 #[.slice (some ⟨g, 0, none⟩) 2 cap] w fun e w' => e = .returned (.bool (x && y)) ∧ Below w.heap.size w w' := by
  cases x <;>
  · go_enter Tryz.func77, Tryz.ntmps77
    go_wp2_with fail
    go_ret
    exact ⟨rfl, by (repeat (first | exact Below.refl _ _ | assumption | exact below_step (by assumption) (by assumption) | (refine Below.drew ?_) | (refine below_drewN ?_ _) | (refine Below.alloc ?_ (by first | omega | (simp; done) | (simp; omega)) _) | (refine Below.setCell ?_ (by first | omega | (simp; done) | (simp; omega)) _) | (refine Below.trans ?_ (Below.mono (by assumption) (by first | omega | (simp; done) | (simp; omega))))))⟩

theorem says_minus (g cap : Nat) (x y : Bool) (w : World) (hx : w.cell? ⟨g, 0, none⟩ = some (.bool x)) (hy : w.cell? ⟨g, 1, none⟩ = some (.bool y)) :
    Calls Tryz.prog 78 #[.slice (some ⟨g, 0, none⟩) 2 cap] w fun e w' => e = .returned (.bool (x && !y)) ∧ Below w.heap.size w w' := by
  cases x <;>
  · go_enter Tryz.func78, Tryz.ntmps78
    go_wp2_with fail
    go_ret
    exact ⟨rfl, by (repeat (first | exact Below.refl _ _ | assumption | exact below_step (by assumption) (by assumption) | (refine Below.drew ?_) | (refine below_drewN ?_ _) | (refine Below.alloc ?_ (by first | omega | (simp; done) | (simp; omega)) _) | (refine Below.setCell ?_ (by first | omega | (simp; done) | (simp; omega)) _) | (refine Below.trans ?_ (Below.mono (by assumption) (by first | omega | (simp; done) | (simp; omega))))))⟩

theorem says_xor (g cap : Nat) (x y : Bool) (w : World) (hx : w.cell? ⟨g, 0, none⟩ = some (.bool x)) (hy : w.cell? ⟨g, 1, none⟩ = some (.bool y)) :
    Calls Tryz.prog 79 #[.slice (some ⟨g, 0, none⟩) 2 cap] w fun e w' => e = .returned (.bool (x != y)) ∧ Below w.heap.size w w' := by
  go_enter Tryz.func79, Tryz.ntmps79
  go_wp2_with fail
  go_quiet (fail)
  go_wp2_with fail
  go_ret
  exact ⟨rfl, by (repeat (first | exact Below.refl _ _ | assumption | exact below_step (by assumption) (by assumption) | (refine Below.drew ?_) | (refine below_drewN ?_ _) | (refine Below.alloc ?_ (by first | omega | (simp; done) | (simp; omega)) _) | (refine Below.setCell ?_ (by first | omega | (simp; done) | (simp; omega)) _) | (refine Below.trans ?_ (Below.mono (by assumption) (by first | omega | (simp; done) | (simp; omega))))))⟩

theorem says_or (g cap : Nat) (x y : Bool) (w : World) (hx : w.cell? ⟨g, 0, none⟩ = some (.bool x)) (hy : w.cell? ⟨g, 1, none⟩ = some (.bool y)) :
    Calls Tryz.prog 80 #[.slice (some ⟨g, 0, none⟩) 2 cap] w fun e w' => e = .returned (.bool (x || y)) ∧ Below w.heap.size w w' := by
  cases x <;>
  · go_enter Tryz.func80, Tryz.ntmps80
    go_wp2_with fail
    go_ret
    exact ⟨rfl, by (repeat (first | exact Below.refl _ _ | assumption | exact below_step (by assumption) (by assumption) | (refine Below.drew ?_) | (refine below_drewN ?_ _) | (refine Below.alloc ?_ (by first | omega | (simp; done) | (simp; omega)) _) | (refine Below.setCell ?_ (by first | omega | (simp; done) | (simp; omega)) _) | (refine Below.trans ?_ (Below.mono (by assumption) (by first | omega | (simp; done) | (simp; omega))))))⟩

theorem says_any (w : World) : Calls Tryz.prog 61 #[] w fun e w' => e = .returned (.agg #[.nilFunc, .nilFunc, .func (.func 76) #[] #[], .func (.func 77) #[] #[], .func (.func 78) #[] #[], .func (.func 79) #[] #[], .func (.func 80) #[] #[]]) ∧ Below w.heap.size w w' := by
  go_enter Tryz.func61, Tryz.ntmps61
  go_wp2_with fail
  refine bodyPost_ret (v := (.agg #[.nilFunc, .nilFunc, .func (.func 76) #[] #[], .func (.func 77) #[] #[], .func (.func 78) #[] #[], .func (.func 79) #[] #[], .func (.func 80) #[] #[]])) (by simp [results, Tryz.results61, go_sem]) rfl ⟨rfl, by (repeat (first | exact Below.refl _ _ | assumption | exact below_step (by assumption) (by assumption) | (refine Below.drew ?_) | (refine below_drewN ?_ _) | (refine Below.alloc ?_ (by first | omega | (simp; done) | (simp; omega)) _) | (refine Below.setCell ?_ (by first | omega | (simp; done) | (simp; omega)) _) | (refine Below.trans ?_ (Below.mono (by assumption) (by first | omega | (simp; done) | (simp; omega))))))⟩

theorem infoBool : (Tryz.prog.info? 4).map (fun i => (i.zero, i.size, i.bytes)) = some (some (.bool false), 1, 1) := by kernel_rfl

theorem says_at2 (w : World) : (Instr.index 94 (.agg #[.nilFunc, .nilFunc, .func (.func 76) #[] #[], .func (.func 77) #[] #[], .func (.func 78) #[] #[], .func (.func 79) #[] #[], .func (.func 80) #[] #[]]) (.int .i64 2)).run Tryz.prog w = .ok (.func (.func 76) #[] #[]) w := by kernel_rfl
theorem says_at3 (w : World) : (Instr.index 94 (.agg #[.nilFunc, .nilFunc, .func (.func 76) #[] #[], .func (.func 77) #[] #[], .func (.func 78) #[] #[], .func (.func 79) #[] #[], .func (.func 80) #[] #[]]) (.int .i64 3)).run Tryz.prog w = .ok (.func (.func 77) #[] #[]) w := by kernel_rfl
theorem says_at4 (w : World) : (Instr.index 94 (.agg #[.nilFunc, .nilFunc, .func (.func 76) #[] #[], .func (.func 77) #[] #[], .func (.func 78) #[] #[], .func (.func 79) #[] #[], .func (.func 80) #[] #[]]) (.int .i64 4)).run Tryz.prog w = .ok (.func (.func 78) #[] #[]) w := by kernel_rfl
theorem says_at5 (w : World) : (Instr.index 94 (.agg #[.nilFunc, .nilFunc, .func (.func 76) #[] #[], .func (.func 77) #[] #[], .func (.func 78) #[] #[], .func (.func 79) #[] #[], .func (.func 80) #[] #[]]) (.int .i64 5)).run Tryz.prog w = .ok (.func (.func 79) #[] #[]) w := by kernel_rfl
theorem says_at6 (w : World) : (Instr.index 94 (.agg #[.nilFunc, .nilFunc, .func (.func 76) #[] #[], .func (.func 77) #[] #[], .func (.func 78) #[] #[], .func (.func 79) #[] #[], .func (.func 80) #[] #[]]) (.int .i64 6)).run Tryz.prog w = .ok (.func (.func 80) #[] #[]) w := by kernel_rfl

/-- What holds comes to. -/
def HoldsSaid (m : Int) (f : Fm) : Prop := ∀ (A : Nat → Prop) (w : World) (v : Value), Rep A w f v →
  Calls Tryz.prog 45 #[v, .int .u16 m] w fun e w' => e = .returned (.bool (f.holds m)) ∧ Below w.heap.size w w'

set_option maxHeartbeats 400000 in
theorem holds_layer (m : Int) (n : Nat) (hn : n < 16) (_h0 : 0 ≤ m) (_hm : m < 65536) (w : World) :
    Calls Tryz.prog 45 #[.agg #[.int .i64 1, .int .i64 n, .slice none 0 0], .int .u16 m] w fun e w' =>
      e = .returned (.bool (bits BinOp.and IntKind.u16 (m / 2 ^ n) 1 == 1)) ∧ Below w.heap.size w w' := by
  go_enter Tryz.func45, Tryz.ntmps45
  go_wp2_with fail
  go_ret
  exact ⟨rfl, by (repeat (first | exact Below.refl _ _ | assumption | exact below_step (by assumption) (by assumption) | (refine Below.drew ?_) | (refine below_drewN ?_ _) | (refine Below.alloc ?_ (by first | omega | (simp; done) | (simp; omega)) _) | (refine Below.setCell ?_ (by first | omega | (simp; done) | (simp; omega)) _) | (refine Below.trans ?_ (Below.mono (by assumption) (by first | omega | (simp; done) | (simp; omega))))))⟩

set_option maxRecDepth 100000 in
set_option maxHeartbeats 1000000 in
theorem holds_not (m : Int) (f : Fm) (ih : HoldsSaid m f) (A : Nat → Prop) (w : World) (v : Value) (hr : Rep A w (.not f) v) :
    Calls Tryz.prog 45 #[v, .int .u16 m] w fun e w' => e = .returned (.bool (!f.holds m)) ∧ Below w.heap.size w w' := by
  obtain ⟨b, off, cap, x, y, z, rfl, h1, h2, hA, hx, hy, hz, hf⟩ := hr
  have hlt := World.block_lt_of_cell? w _ hx
  obtain ⟨a, n, c, rfl, rfl, rfl⟩ := hf.cells
  have hf' := hid hf
  clear hf
  obtain ⟨i0, hi, hz0, hz1, hz2⟩ := info_parts infoBool
  have x2 := says_at2
  go_enter Tryz.func45, Tryz.ntmps45
  go_wp2_with fail
  refine wp_loop_rounds 2 ?_; rw [rounds_succ]
  go_wp2_with fail
  refine (ih A _ _ (hf'.out.grew (B := w.heap.size) (by (repeat (first | exact Below.refl _ _ | assumption | exact below_step (by assumption) (by assumption) | (refine Below.drew ?_) | (refine below_drewN ?_ _) | (refine Below.alloc ?_ (by first | omega | (simp; done) | (simp; omega)) _) | (refine Below.setCell ?_ (by first | omega | (simp; done) | (simp; omega)) _) | (refine Below.trans ?_ (Below.mono (by assumption) (by first | omega | (simp; done) | (simp; omega))))))) (Nat.le_refl _))).mono ?_
  rintro e w1 ⟨rfl, hb1⟩
  have hB1 : Below w.heap.size w w1 := by (repeat (first | exact Below.refl _ _ | assumption | exact below_step (by assumption) (by assumption) | (refine Below.drew ?_) | (refine below_drewN ?_ _) | (refine Below.alloc ?_ (by first | omega | (simp; done) | (simp; omega)) _) | (refine Below.setCell ?_ (by first | omega | (simp; done) | (simp; omega)) _) | (refine Below.trans ?_ (Below.mono (by assumption) (by first | omega | (simp; done) | (simp; omega))))))
  have hs1 : w.heap.size + 1 < w1.heap.size := by have := hb1.size; simp at this; omega
  have k2 : w1.cell? ⟨w.heap.size, 0, none⟩ = some (.int .i64 2) := by rw [hb1.cell (by first | omega | (simp; done) | (simp; omega))]; simp [go_sem]
  clear hb1
  go_wp2_with (at_builtin; refine wpList_append_own _ rfl _ _ 92 rfl (w.heap.size + 2) 4 i0 (.bool false) 1 1 Tryz.underlying92 hi hz0 hz1 hz2 rfl (by decide) _ _ _ rfl (World.ownsRow_nil _ _ _ _) ⟨w1.heap.size, 0, none⟩ 1 1 [.bool (f.holds m)] rfl rfl (cell_one_new _ _ _) (fun x hx => by simp at hx; subst hx; rfl) (by unfold maxLen; omega) (by omega) (by simp; omega) ?_; intro v' w3 hown' hgrow3 hnil3)
  have hB3 : Below w.heap.size w w3 := (hB1.alloc (by omega) _).grown hgrow3 (by simp; omega) (fun k hk => by cases hk)
  have k3 := hgrow3.cell (a := ⟨w.heap.size, 0, none⟩) ((World.cell?_alloc_past _ _ _ (by omega)).trans k2) (fun h => by cases h)
  clear hgrow3 hnil3 k2
  obtain ⟨g, cg, hv, hg, hcg, hgx⟩ := row_one hown'
  clear hown'
  subst hv
  rw [rounds_succ]
  go_wp2_with fail
  go_region_held3 (fun w' => Below w.heap.size w w' ∧ w'.cell? ⟨w.heap.size, 0, none⟩ = some (.int .i64 2) ∧ w'.cell? ⟨g, 0, none⟩ = some (.bool (f.holds m)))
    (first
      | exact ⟨hB3.drew, k3, hgx⟩
      | (go_split_ands
         refine ⟨?_, ?_, ?_⟩
         · assumption
         · assumption
         · assumption))
    (first
      | (go_at_call 61; refine (says_any _).mono ?_; rintro e w4 ⟨rfl, hb4⟩; go_split_ands; have k6 := below_step (w := w) (by assumption) hb4; have k4 := keepc hb4 (v := .int .i64 2) (by assumption); have k5 := keepc hb4 (v := .bool (f.holds m)) (by assumption))
      | (go_at_call 76; refine (says_not _ _ _ _ (by assumption)).mono ?_; rintro e w5 ⟨rfl, hb5⟩; go_split_ands; have k7 := below_step k6 hb5; have k8 := keepc hb5 k4; have k9 := keepc hb5 k5))
  all_goals
    go_wp2_with fail
    go_ret
    exact ⟨rfl, k7⟩

end Go.Proofs.YtjijlkiilmbdnaaGreatDoor

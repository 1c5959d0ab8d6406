/- walk: it goes over the parts of a formula. -/
import Derived.Test.YtjijlkiilmbdnaaGreatDoorCk
import Derived.Test.YtjijlkiilmbdnaaGreatDoorRg
import Derived.OwnWalkIn
import Derived.TacticsInMore
import Derived.Deep.Cut
namespace Go.Proofs.YtjijlkiilmbdnaaGreatDoor
open Go Go.RowKit

/-- All parts of a formula. -/
def Fm.all : Fm → List Fm
  | .layer n => [.layer n]
  | .not f => .not f :: f.all
  | .bin o f g => .bin o f g :: (f.all ++ g.all)

/-- What a round of the caller's does. -/
def Round (l : Nat) (A : Nat → Prop) (T : List Fm) (J : List Fm → World → Prop) : Prop :=
  ∀ pre x post u V, T = pre ++ x :: post → Rep A V x u → J pre V → YieldAt Fence.wide 0 Tryz.prog l #[u] V fun e V' => e = .returned (.bool true) ∧ J (pre ++ [x]) V' ∧ KeepO IsFm V V'

/-- What walk comes to. -/
def WalkSaid (f : Fm) : Prop := ∀ (l : Nat) (A : Nat → Prop) (T : List Fm) (J : List Fm → World → Prop) (pre post : List Fm) (W : World) (v : Value),
  T = pre ++ (f.all ++ post) → (∀ k, A k → TyFm W k) → Rep A W f v → (∀ pre V V', J pre V → Below V.heap.size V V' → J pre V') → Round l A T J → J pre W →
  Calls Tryz.prog 42 #[v, .func (.yield l) #[] #[]] W fun e W' => e = .returned (.bool true) ∧ J (pre ++ f.all) W' ∧ KeepO IsFm W W'

theorem keep_ty {w w' : World} (h : KeepO IsFm w w') {b i : Nat} (hb : TyFm w b) {v : Value} (hc : w.cell? ⟨b, i, none⟩ = some v) : w'.cell? ⟨b, i, none⟩ = some v := by
  rw [World.cell?_of_block (h.ty hb).2]; exact hc

theorem walk_layer (n : Nat) : WalkSaid (.layer n) := by
  intro l A T J pre post W v hT hA hr hJ hY h0
  have K := hY pre (.layer n) post v (W.alloc (.cells #[.int .i64 1, .int .i64 n, .slice none 0 0] 28)) hT (hr.grew (B := W.heap.size) ((Below.refl _ _).alloc (Nat.le_refl _) _) (Nat.le_refl _)) (hJ _ _ _ h0 ((Below.refl _ _).alloc (Nat.le_refl _) _))
  obtain ⟨fn, tmps, assign, body, hy, hR⟩ := K
  obtain rfl := hr
  have hR' := hid hR
  have hJ' := hid hJ
  clear hR hY hJ h0
  go_enter Tryz.func42, Tryz.ntmps42
  go_wp2_with fail
  go_step3
  refine wp_seq ?_
  refine (wpIn_wide (n := 0)).1 ?_
  gi_wp2
  refine ⟨rfl, hR'.out.mono ?_⟩
  rintro e W1 ⟨rfl, hJ1, hk1⟩
  have hs1 := hk1.size
  have k2 := (three_cells (hk1.block _ _ (heap_alloc_new W _) ⟨_, _, rfl⟩)).2.2.1
  clear hy
  gi_wp2
  go_wp2_with fail
  go_step3
  go_wp2_with fail
  refine wp_loop_rounds 1 ?_; rw [rounds_succ]
  go_wp2_with fail
  try rw [Exit.noGoto_ret]
  go_ret
  exact ⟨rfl, hJ1, (KeepO.below ((Below.refl _ _).alloc (Nat.le_refl _) _)).trans hk1⟩

set_option maxHeartbeats 400000 in
theorem walk_not (f : Fm) (ih : WalkSaid f) : WalkSaid (.not f) := by
  intro l A T J pre post W v hT hA hr hJ hY h0
  have hr0 := hr
  obtain ⟨b, off, cap, x, y, z, rfl, h1, h2, hAb, hx, hy, hz, hf⟩ := hr
  have K := hY pre (.not f) (f.all ++ post) _ (W.alloc (.cells #[.int .i64 2, .int .i64 0, .slice (some ⟨b, off, none⟩) 1 cap] 28)) hT (hr0.grew (B := W.heap.size) ((Below.refl _ _).alloc (Nat.le_refl _) _) (Nat.le_refl _)) (hJ _ _ _ h0 ((Below.refl _ _).alloc (Nat.le_refl _) _))
  obtain ⟨fn, tmps, assign, body, hyl, hR⟩ := K
  have hlt := World.block_lt_of_cell? W _ hx
  obtain ⟨a, n, c, rfl, rfl, rfl⟩ := hf.cells
  have hR' := hid hR
  have hJ' := hid hJ
  have hY' := hid hY
  have hf' := hid hf
  have hA' := hid hA
  clear hR hY hJ h0 hr0 hf hA
  go_enter Tryz.func42, Tryz.ntmps42
  go_wp2_with fail
  go_step3
  refine wp_seq ?_
  refine (wpIn_wide (n := 0)).1 ?_
  gi_wp2
  refine ⟨rfl, hR'.out.mono ?_⟩
  rintro e W1 ⟨rfl, hJ1, hk1⟩
  have hs1 := hk1.size
  simp only [World.size_alloc] at hs1
  have hk0 : KeepO IsFm W W1 := (KeepO.below ((Below.refl _ _).alloc (Nat.le_refl _) _)).trans hk1
  have hty : TyFm W b := hA'.out b hAb
  have k2 := (three_cells (hk1.block _ _ (heap_alloc_new W _) ⟨_, _, rfl⟩)).2.2.1
  have kx := keep_ty hk0 hty hx
  have ky := keep_ty hk0 hty hy
  have kz := keep_ty hk0 hty hz
  have hl1 : b < W1.heap.size := by omega
  have hf1 := hid (hf'.out.keep (B := A) (w' := W1) (fun k hk _ => (hk0.ty (hA'.out k hk)).2) (fun _ h _ => h))
  clear hyl hR' hf' hk1
  gi_wp2
  go_wp2_with fail
  go_step3
  go_wp2_with fail
  refine wp_loop_rounds 2 ?_; rw [rounds_succ]
  go_wp2_with fail
  refine (ih l A T J (pre ++ [.not f]) post _ _ (by rw [hT]; simp [Fm.all]) (fun k hk => ((hk0.trans (KeepO.below ((Below.refl _ _).alloc (Nat.le_refl _) _))).ty (hA'.out k hk)).1) (hf1.out.grew (B := W1.heap.size) (by (repeat (first | exact Below.refl _ _ | assumption | exact below_step (by assumption) (by assumption) | (refine Below.drew ?_) | (refine below_drewN ?_ _) | (refine Below.alloc ?_ (by first | omega | (simp; done) | (simp; omega)) _) | (refine Below.setCell ?_ (by first | omega | (simp; done) | (simp; omega)) _) | (refine Below.trans ?_ (Below.mono (by assumption) (by first | omega | (simp; done) | (simp; omega))))))) (Nat.le_refl _)) hJ'.out hY'.out (hJ'.out _ _ _ hJ1 (by (repeat (first | exact Below.refl _ _ | assumption | exact below_step (by assumption) (by assumption) | (refine Below.drew ?_) | (refine below_drewN ?_ _) | (refine Below.alloc ?_ (by first | omega | (simp; done) | (simp; omega)) _) | (refine Below.setCell ?_ (by first | omega | (simp; done) | (simp; omega)) _) | (refine Below.trans ?_ (Below.mono (by assumption) (by first | omega | (simp; done) | (simp; omega))))))))).mono ?_
  rintro e W2 ⟨rfl, hJ2, hk2⟩
  have hk3 : KeepO IsFm W W2 := (hk0.trans (KeepO.below ((Below.refl _ _).alloc (Nat.le_refl _) _))).trans hk2
  clear hk2
  go_wp2_with fail
  rw [rounds_succ]
  go_wp2_with fail
  try rw [Exit.noGoto_ret]
  go_ret
  exact ⟨rfl, by simpa [Fm.all] using hJ2, hk3⟩

set_option maxHeartbeats 800000 in
theorem walk_bin (o : Nat) (f g : Fm) (ih : WalkSaid f) (ihg : WalkSaid g) : WalkSaid (.bin o f g) := by
  intro l A T J pre post W v hT hA hr hJ hY h0
  have hr0 := hr
  obtain ⟨b, off, cap, x, y, z, x', y', z', rfl, h1, h2, hAb, hx, hy, hz, hx', hy', hz', hf, hg⟩ := hr
  have K := hY pre (.bin o f g) (f.all ++ (g.all ++ post)) _ (W.alloc (.cells #[.int .i64 o, .int .i64 0, .slice (some ⟨b, off, none⟩) 2 cap] 28)) (by rw [hT]; simp [Fm.all]) (hr0.grew (B := W.heap.size) ((Below.refl _ _).alloc (Nat.le_refl _) _) (Nat.le_refl _)) (hJ _ _ _ h0 ((Below.refl _ _).alloc (Nat.le_refl _) _))
  obtain ⟨fn, tmps, assign, body, hyl, hR⟩ := K
  have hlt := World.block_lt_of_cell? W _ hx
  obtain ⟨a, n, c, rfl, rfl, rfl⟩ := hf.cells
  obtain ⟨a', n', c', rfl, rfl, rfl⟩ := hg.cells
  have hR' := hid hR
  have hJ' := hid hJ
  have hY' := hid hY
  have hf' := hid hf
  have hg' := hid hg
  have hA' := hid hA
  clear hR hY hJ h0 hr0 hf hg hA
  go_enter Tryz.func42, Tryz.ntmps42
  go_wp2_with fail
  go_step3
  refine wp_seq ?_
  refine (wpIn_wide (n := 0)).1 ?_
  gi_wp2
  refine ⟨rfl, hR'.out.mono ?_⟩
  rintro e W1 ⟨rfl, hJ1, hk1⟩
  have hs1 := hk1.size
  simp only [World.size_alloc] at hs1
  have hk0 : KeepO IsFm W W1 := (KeepO.below ((Below.refl _ _).alloc (Nat.le_refl _) _)).trans hk1
  have hty : TyFm W b := hA'.out b hAb
  have k2 := (three_cells (hk1.block _ _ (heap_alloc_new W _) ⟨_, _, rfl⟩)).2.2.1
  have kx := keep_ty hk0 hty hx
  have ky := keep_ty hk0 hty hy
  have kz := keep_ty hk0 hty hz
  have hl1 : b < W1.heap.size := by omega
  have hf1 := hid (hf'.out.keep (B := A) (w' := W1) (fun k hk _ => (hk0.ty (hA'.out k hk)).2) (fun _ h _ => h))
  clear hyl hR' hf' hk1
  gi_wp2
  go_wp2_with fail
  go_step3
  go_wp2_with fail
  refine wp_loop_rounds 3 ?_; rw [rounds_succ]
  go_wp2_with fail
  refine (ih l A T J (pre ++ [.bin o f g]) (g.all ++ post) _ _ (by rw [hT]; simp [Fm.all]) (fun k hk => ((hk0.trans (KeepO.below ((Below.refl _ _).alloc (Nat.le_refl _) _))).ty (hA'.out k hk)).1) (hf1.out.grew (B := W1.heap.size) (by (repeat (first | exact Below.refl _ _ | assumption | exact below_step (by assumption) (by assumption) | (refine Below.drew ?_) | (refine below_drewN ?_ _) | (refine Below.alloc ?_ (by first | omega | (simp; done) | (simp; omega)) _) | (refine Below.setCell ?_ (by first | omega | (simp; done) | (simp; omega)) _) | (refine Below.trans ?_ (Below.mono (by assumption) (by first | omega | (simp; done) | (simp; omega))))))) (Nat.le_refl _)) hJ'.out hY'.out (hJ'.out _ _ _ hJ1 (by (repeat (first | exact Below.refl _ _ | assumption | exact below_step (by assumption) (by assumption) | (refine Below.drew ?_) | (refine below_drewN ?_ _) | (refine Below.alloc ?_ (by first | omega | (simp; done) | (simp; omega)) _) | (refine Below.setCell ?_ (by first | omega | (simp; done) | (simp; omega)) _) | (refine Below.trans ?_ (Below.mono (by assumption) (by first | omega | (simp; done) | (simp; omega))))))))).mono ?_
  rintro e W2 ⟨rfl, hJ2, hk2⟩
  have hs2 := hk2.size
  simp only [World.size_alloc] at hs2
  have hk3 : KeepO IsFm W W2 := (hk0.trans (KeepO.below ((Below.refl _ _).alloc (Nat.le_refl _) _))).trans hk2
  have hl2 : b < W2.heap.size := by omega
  have hg1 := hid (hg'.out.keep (B := A) (w' := W2) (fun k hk _ => (hk3.ty (hA'.out k hk)).2) (fun _ h _ => h))
  clear hk2 kx ky kz hg' hf1
  have kx := keep_ty hk3 hty hx'
  have ky := keep_ty hk3 hty hy'
  have kz := keep_ty hk3 hty hz'
  go_wp2_with fail
  rw [rounds_succ]
  go_wp2_with fail
  refine (ihg l A T J (pre ++ [.bin o f g] ++ f.all) post _ _ (by rw [hT]; simp [Fm.all]) (fun k hk => ((hk3.trans (KeepO.below ((Below.refl _ _).alloc (Nat.le_refl _) _))).ty (hA'.out k hk)).1) (hg1.out.grew (B := W2.heap.size) (by (repeat (first | exact Below.refl _ _ | assumption | exact below_step (by assumption) (by assumption) | (refine Below.drew ?_) | (refine below_drewN ?_ _) | (refine Below.alloc ?_ (by first | omega | (simp; done) | (simp; omega)) _) | (refine Below.setCell ?_ (by first | omega | (simp; done) | (simp; omega)) _) | (refine Below.trans ?_ (Below.mono (by assumption) (by first | omega | (simp; done) | (simp; omega))))))) (Nat.le_refl _)) hJ'.out hY'.out (hJ'.out _ _ _ hJ2 (by (repeat (first | exact Below.refl _ _ | assumption | exact below_step (by assumption) (by assumption) | (refine Below.drew ?_) | (refine below_drewN ?_ _) | (refine Below.alloc ?_ (by first | omega | (simp; done) | (simp; omega)) _) | (refine Below.setCell ?_ (by first | omega | (simp; done) | (simp; omega)) _) | (refine Below.trans ?_ (Below.mono (by assumption) (by first | omega | (simp; done) | (simp; omega))))))))).mono ?_
  rintro e W3 ⟨rfl, hJ3, hk4⟩
  have hk5 : KeepO IsFm W W3 := (hk3.trans (KeepO.below ((Below.refl _ _).alloc (Nat.le_refl _) _))).trans hk4
  clear hk4
  go_wp2_with fail
  rw [rounds_succ]
  go_wp2_with fail
  try rw [Exit.noGoto_ret]
  go_ret
  exact ⟨rfl, by simpa [Fm.all] using hJ3, hk5⟩

theorem walk_any (f : Fm) : WalkSaid f := by
  induction f with
  | layer n => exact walk_layer n
  | not f ih => exact walk_not f ih
  | bin o f g ih ihg => exact walk_bin o f g ih ihg

end Go.Proofs.YtjijlkiilmbdnaaGreatDoor

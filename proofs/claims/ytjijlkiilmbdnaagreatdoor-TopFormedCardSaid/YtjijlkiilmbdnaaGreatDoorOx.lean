/- own of what joins two. -/
import Derived.Test.YtjijlkiilmbdnaaGreatDoorOw
namespace Go.Proofs.YtjijlkiilmbdnaaGreatDoor
open Go Go.RowKit

set_option maxRecDepth 100000 in
set_option maxHeartbeats 2000000 in
theorem own_bin (o : Nat) (f f' : Fm) (ih : OwnSaid f) (ih' : OwnSaid f') : OwnSaid (.bin o f f') := by
  intro A w v hr
  obtain ⟨b, off, cap, x, y, z, x', y', z', rfl, h1, h2, hAb, hx, hy, hz, hx', hy', hz', hf, hfs⟩ := hr
  have hlt := World.block_lt_of_cell? w _ hx
  obtain ⟨a, n, c, rfl, rfl, rfl⟩ := hf.cells
  obtain ⟨a', n', c', rfl, rfl, rfl⟩ := hfs.cells
  have hf' := hid hf
  have hfs' := hid hfs
  clear hf hfs
  go_enter Tryz.func40, Tryz.ntmps40
  go_wp2_with fail
  refine (clone_any 2 b off cap (by omega) (by omega) _ [.int .i64 f.op, .int .i64 f.lay, .slice a n c, .int .i64 f'.op, .int .i64 f'.lay, .slice a' n' c'] rfl ?_ ?_).mono ?_
  · intro j u hj
    match j, hj with
    | 0, hj => cases hj; exact cell_past _ _ _ _ _ (cell_past _ _ _ _ _ hx)
    | 1, hj => cases hj; exact cell_past _ _ _ _ _ (cell_past _ _ _ _ _ hy)
    | 2, hj => cases hj; exact cell_past _ _ _ _ _ (cell_past _ _ _ _ _ hz)
    | 3, hj => cases hj; exact cell_past _ _ _ _ _ (cell_past _ _ _ _ _ hx')
    | 4, hj => cases hj; exact cell_past _ _ _ _ _ (cell_past _ _ _ _ _ hy')
    | 5, hj => cases hj; exact cell_past _ _ _ _ _ (cell_past _ _ _ _ _ hz')
  · intro u hu; simp at hu; rcases hu with rfl | rfl | rfl | rfl | rfl | rfl <;> rfl
  rintro e w1 ⟨g, cg, cur, rfl, hg, hcg, hh, htk, hb1⟩
  have hs1 := hb1.size
  simp only [World.size_alloc] at hs1 hg
  have e1 : w1.heap[w.heap.size]? = some (.cells #[.int .i64 o, .int .i64 0, .slice (some ⟨b, off, none⟩) 2 cap] 28 (0, 0)) := by
    rw [hb1.block _ (by simp; omega), Below.heap_alloc _ _ _ (by simp)]; exact heap_alloc_new _ _
  have e2 : w1.heap[w.heap.size + 1]? = some (.cells #[.int .i64 0, .int .i64 0, .slice none 0 0] 28 (0, 0)) := by
    have := heap_alloc_new (w.alloc (.cells #[.int .i64 o, .int .i64 0, .slice (some ⟨b, off, none⟩) 2 cap] 28)) (.cells #[.int .i64 0, .int .i64 0, .slice none 0 0] 28)
    rw [World.size_alloc] at this
    rw [hb1.block _ (by simp)]; exact this
  have hB1 : Below w.heap.size w w1 := by (repeat (first | exact Below.refl _ _ | assumption | exact below_step (by assumption) (by assumption) | (refine Below.drew ?_) | (refine below_drewN ?_ _) | (refine Below.alloc ?_ (by first | omega | (simp; done) | (simp; omega)) _) | (refine Below.setCell ?_ (by first | omega | (simp; done) | (simp; omega)) _) | (refine Below.trans ?_ (Below.mono (by assumption) (by first | omega | (simp; done) | (simp; omega))))))
  obtain ⟨p0, p1, p2, pf0, pf1, pf2⟩ := three_cells e1
  have hrow := row_cell hh htk rfl
  have g0 := hrow 0 _ rfl
  have g1 := hrow 1 _ rfl
  have g2 := hrow 2 _ rfl
  have g3 := hrow 3 _ rfl
  have g4 := hrow 4 _ rfl
  have g5 := hrow 5 _ rfl
  have hgn : g ≠ w.heap.size := by omega
  have hgn2 : w.heap.size ≠ g := by omega
  have eH := hid e1
  have e2H := hid e2
  have hhH := hid hh
  clear hb1 e1 e2 hh hrow
  go_wp2_with fail
  have E1 := block_set (i := 2) (.slice (some ⟨g, 0, none⟩) 2 cg) eH.out
  have E2 : (w1.setCell ⟨w.heap.size, 2, none⟩ (.slice (some ⟨g, 0, none⟩) 2 cg)).heap[w.heap.size + 1]? = _ := (Below.heap_setCell w1 ⟨w.heap.size, 2, none⟩ _ (w.heap.size + 1) (by simp)).trans e2H.out
  have G1 : (w1.setCell ⟨w.heap.size, 2, none⟩ (.slice (some ⟨g, 0, none⟩) 2 cg)).heap[g]? = _ := (Below.heap_setCell w1 ⟨w.heap.size, 2, none⟩ _ g hgn).trans hhH.out
  have hB2 := hB1.setCell (p := ⟨w.heap.size, 2, none⟩) (Nat.le_refl _) (.slice (some ⟨g, 0, none⟩) 2 cg)
  have hz2 : w1.heap.size ≤ (w1.setCell ⟨w.heap.size, 2, none⟩ (.slice (some ⟨g, 0, none⟩) 2 cg)).heap.size := by simp
  generalize w1.setCell ⟨w.heap.size, 2, none⟩ (.slice (some ⟨g, 0, none⟩) 2 cg) = w2 at *
  clear p0 p1 p2 pf0 pf1 pf2 g0 g1 g2 g3 g4 g5 hB1 eH e2H hhH
  have hg2s := lt_of_block G1
  obtain ⟨p0, p1, p2, pf0, pf1, pf2⟩ := three_cells E1
  have hrow := row_cell G1 htk rfl
  have g0 := hrow 0 _ rfl
  have g1 := hrow 1 _ rfl
  have g2 := hrow 2 _ rfl
  have g3 := hrow 3 _ rfl
  have g4 := hrow 4 _ rfl
  have g5 := hrow 5 _ rfl
  have hgf0 : w2.frozen? ⟨g, 0, none⟩ = false := by simp [World.frozen?, G1]
  have hgf1 : w2.frozen? ⟨g, 1, none⟩ = false := by simp [World.frozen?, G1]
  have hgf2 : w2.frozen? ⟨g, 2, none⟩ = false := by simp [World.frozen?, G1]
  have hps : w.heap.size < w2.heap.size := by omega
  have E1H := hid E1
  have E2H := hid E2
  have G1H := hid G1
  have htkH := hid htk
  have hwt : w2.heap.size ≠ g := by omega
  clear E1 E2 G1 htk hrow
  refine wp_loop_rounds 3 ?_; rw [rounds_succ]
  go_wp2_with fail
  have hst : HeldOwn w.heap.size w2.heap.size g 0 (.slice (some ⟨g, 0, none⟩) 2 cg) (.int .i64 f.op) (.int .i64 f.lay) (.slice a n c) (w2.alloc (.cells #[.int .i64 f.op, .int .i64 f.lay, .slice a n c] 28)).drew :=
    ⟨cell_past _ _ _ _ _ p2, cell_new _ _ _ _ _ _ rfl rfl, cell_new _ _ _ _ _ _ rfl rfl, cell_new _ _ _ _ _ _ rfl rfl, cellOf_some (cell_past _ _ _ _ _ g0), cellOf_some (cell_past _ _ _ _ _ g1), cellOf_some (cell_past _ _ _ _ _ g2),
      (World.frozen?_alloc_past _ _ _ hg2s).trans hgf0, (World.frozen?_alloc_past _ _ _ hg2s).trans hgf1, (World.frozen?_alloc_past _ _ _ hg2s).trans hgf2⟩
  have hstH := hid hst
  clear hst
  go_region_held3 (fun W => W.cell? ⟨w.heap.size, 2, none⟩ = some (.slice (some ⟨g, 0, none⟩) 2 cg) ∧ W.cell? ⟨w2.heap.size, 0, none⟩ = some (.int .i64 f.op) ∧ W.cell? ⟨w2.heap.size, 1, none⟩ = some (.int .i64 f.lay) ∧ W.cell? ⟨w2.heap.size, 2, none⟩ = some (.slice a n c) ∧
      W.cell? ⟨g, 0, none⟩ = some (cellOf W ⟨g, 0, none⟩) ∧ W.cell? ⟨g, 1, none⟩ = some (cellOf W ⟨g, 1, none⟩) ∧ W.cell? ⟨g, 2, none⟩ = some (cellOf W ⟨g, 2, none⟩) ∧
      W.frozen? ⟨g, 0, none⟩ = false ∧ W.frozen? ⟨g, 1, none⟩ = false ∧ W.frozen? ⟨g, 2, none⟩ = false)
    (first
      | exact hstH.out
      | exact HeldOwn.below (p := w.heap.size) (t := w2.heap.size) (g := g) (o := 0) (by assumption) (by assumption)
      | exact HeldOwn.set (p := w.heap.size) (t := w2.heap.size) (g := g) (o := 0) (by omega) (by omega) 0 1 2 _ _ _ (by assumption))
    (first
      | (go_at_call 40; refine Calls.mono (ih A _ _ ?_) ?_; (exact hf'.out.grew (B := w.heap.size) (by (repeat (first | exact Below.refl _ _ | assumption | exact below_step (by assumption) (by assumption) | (refine Below.drew ?_) | (refine below_drewN ?_ _) | (refine Below.alloc ?_ (by first | omega | (simp; done) | (simp; omega)) _) | (refine Below.setCell ?_ (by first | omega | (simp; done) | (simp; omega)) _) | (refine Below.trans ?_ (Below.mono (by assumption) (by first | omega | (simp; done) | (simp; omega))))))) (Nat.le_refl _)); rintro e w4 ⟨u, rfl, hru, hb4⟩; obtain ⟨ua, un, uc, rfl⟩ := hru.agg; have hru' := hid hru; clear hru))
  have hB4 : Below w2.heap.size w2 w4 := (((Below.refl _ _).alloc (Nat.le_refl _) _).drew).trans (hb4.mono (by simp))
  have hG5 := set_three_at w4 g 0 1 2 (.int .i64 f.op) (.int .i64 f.lay) (.slice ua un uc)
  have G5 := block_set_three (i := 0) (j := 1) (k := 2) (.int .i64 f.op) (.int .i64 f.lay) (.slice ua un uc) ((hB4.block _ hg2s).trans G1H.out)
  have hs4 := hB4.size
  have hs5 := hG5.size
  have E5 := (hG5.block _ (by omega) (by simp; omega)).trans ((hB4.block _ hps).trans E1H.out)
  have F5 := (hG5.block (w.heap.size + 1) (by omega) (by simp; omega)).trans ((hB4.block _ (by omega)).trans E2H.out)
  have hru5 := hru'.out.keep (B := fun k => w2.heap.size ≤ k ∧ TyFm (((w4.setCell ⟨g, 0, none⟩ (.int .i64 f.op)).setCell ⟨g, 1, none⟩ (.int .i64 f.lay)).setCell ⟨g, 2, none⟩ (.slice ua un uc)) k) (fun k hk hk2 => hG5.block k hk2 (fun e => by cases e; have hk := hk.1; simp at hk; omega)) (fun k hk _ => ⟨by have hk := hk.1; simp at hk; omega, hk.2.step hG5 (.inr (TyFm.of G5))⟩)
  have tg := TyFm.of G5
  have hB5 := (hB2.trans (hB4.mono (by omega))).grown hG5 (by omega) (fun k hk => by cases hk; omega)
  obtain ⟨c0, c1, c2, hcr⟩ := three_set (x := .int .i64 f.op) (y := .int .i64 f.lay) (z := .slice ua un uc) (keepc hB4 g0) (keepc hB4 g1) (keepc hB4 g2)
  have d0 := hcr 3 _ (by omega) (keepc hB4 g3)
  have d1 := hcr 4 _ (by omega) (keepc hB4 g4)
  have d2 := hcr 5 _ (by omega) (keepc hB4 g5)
  clear hcr
  generalize ((w4.setCell ⟨g, 0, none⟩ (.int .i64 f.op)).setCell ⟨g, 1, none⟩ (.int .i64 f.lay)).setCell ⟨g, 2, none⟩ (.slice ua un uc) = w5 at *
  have hg5s := lt_of_block G5
  obtain ⟨r0, r1, r2, rf0, rf1, rf2⟩ := three_cells E5
  have hgf3 : w5.frozen? ⟨g, 3, none⟩ = false := by simp [World.frozen?, G5]
  have hgf4 : w5.frozen? ⟨g, 4, none⟩ = false := by simp [World.frozen?, G5]
  have hgf5 : w5.frozen? ⟨g, 5, none⟩ = false := by simp [World.frozen?, G5]
  have hrH := hid hru5
  have E5H := hid E5
  have F5H := hid F5
  have G5H := hid G5
  have c0H := hid c0
  have c1H := hid c1
  have c2H := hid c2
  have hps5 : w.heap.size < w5.heap.size := by omega
  have hwt5 : w5.heap.size ≠ g := by omega
  clear hru5 c0 c1 c2 E5 F5 G5 hG5 hru' hb4 p0 p1 p2 g0 g1 g2 g3 g4 g5 pf0 pf1 pf2 hgf0 hgf1 hgf2 hf' E1H E2H G1H hstH
  go_wp2_with fail
  rw [rounds_succ]
  go_wp2_with fail
  have hst : HeldOwn w.heap.size w5.heap.size g 3 (.slice (some ⟨g, 0, none⟩) 2 cg) (.int .i64 f'.op) (.int .i64 f'.lay) (.slice a' n' c') (w5.alloc (.cells #[.int .i64 f'.op, .int .i64 f'.lay, .slice a' n' c'] 28)).drew :=
    ⟨cell_past _ _ _ _ _ r2, cell_new _ _ _ _ _ _ rfl rfl, cell_new _ _ _ _ _ _ rfl rfl, cell_new _ _ _ _ _ _ rfl rfl, cellOf_some (cell_past _ _ _ _ _ d0), cellOf_some (cell_past _ _ _ _ _ d1), cellOf_some (cell_past _ _ _ _ _ d2),
      (World.frozen?_alloc_past _ _ _ hg5s).trans hgf3, (World.frozen?_alloc_past _ _ _ hg5s).trans hgf4, (World.frozen?_alloc_past _ _ _ hg5s).trans hgf5⟩
  have hstH := hid hst
  clear hst
  go_region_held3 (fun W => W.cell? ⟨w.heap.size, 2, none⟩ = some (.slice (some ⟨g, 0, none⟩) 2 cg) ∧ W.cell? ⟨w5.heap.size, 0, none⟩ = some (.int .i64 f'.op) ∧ W.cell? ⟨w5.heap.size, 1, none⟩ = some (.int .i64 f'.lay) ∧ W.cell? ⟨w5.heap.size, 2, none⟩ = some (.slice a' n' c') ∧
      W.cell? ⟨g, 3, none⟩ = some (cellOf W ⟨g, 3, none⟩) ∧ W.cell? ⟨g, 4, none⟩ = some (cellOf W ⟨g, 4, none⟩) ∧ W.cell? ⟨g, 5, none⟩ = some (cellOf W ⟨g, 5, none⟩) ∧
      W.frozen? ⟨g, 3, none⟩ = false ∧ W.frozen? ⟨g, 4, none⟩ = false ∧ W.frozen? ⟨g, 5, none⟩ = false)
    (first
      | exact hstH.out
      | exact HeldOwn.below (p := w.heap.size) (t := w5.heap.size) (g := g) (o := 3) (by assumption) (by assumption)
      | exact HeldOwn.set (p := w.heap.size) (t := w5.heap.size) (g := g) (o := 3) (by omega) (by omega) 3 4 5 _ _ _ (by assumption))
    (first
      | (go_at_call 40; refine Calls.mono (ih' A _ _ ?_) ?_; (exact hfs'.out.grew (B := w.heap.size) ((hB5.alloc (by omega) _).drew) (Nat.le_refl _)); rintro e w6 ⟨u, rfl, hru, hb6⟩; obtain ⟨va, vn, vc, rfl⟩ := hru.agg; have hru' := hid hru; clear hru))
  all_goals
    have hB6 : Below w5.heap.size w5 w6 := (((Below.refl _ _).alloc (Nat.le_refl _) _).drew).trans (hb6.mono (by simp))
    have hG7 := set_three_at w6 g 3 4 5 (.int .i64 f'.op) (.int .i64 f'.lay) (.slice va vn vc)
    have hs6 := hB6.size
    have hs7 := hG7.size
    have E7 := (hG7.block _ (by omega) (by simp; omega)).trans ((hB6.block _ hps5).trans E5H.out)
    have F7 := (hG7.block (w.heap.size + 1) (by omega) (by simp; omega)).trans ((hB6.block _ (by omega)).trans F5H.out)
    have tg7 : TyFm (((w6.setCell ⟨g, 3, none⟩ (.int .i64 f'.op)).setCell ⟨g, 4, none⟩ (.int .i64 f'.lay)).setCell ⟨g, 5, none⟩ (.slice va vn vc)) g := TyFm.of (block_set_three (i := 3) (j := 4) (k := 5) (.int .i64 f'.op) (.int .i64 f'.lay) (.slice va vn vc) ((hB6.block _ hg5s).trans G5H.out))
    have hru7 := hru'.out.keep (B := fun k => w.heap.size + 2 ≤ k ∧ TyFm (((w6.setCell ⟨g, 3, none⟩ (.int .i64 f'.op)).setCell ⟨g, 4, none⟩ (.int .i64 f'.lay)).setCell ⟨g, 5, none⟩ (.slice va vn vc)) k) (fun k hk hk2 => hG7.block k hk2 (fun e => by cases e; have hk := hk.1; simp at hk; omega)) (fun k hk _ => ⟨by have hk := hk.1; simp at hk; omega, hk.2.step hG7 (.inr tg7)⟩)
    have hrv7 := hrH.out.keep (B := fun k => w.heap.size + 2 ≤ k ∧ TyFm (((w6.setCell ⟨g, 3, none⟩ (.int .i64 f'.op)).setCell ⟨g, 4, none⟩ (.int .i64 f'.lay)).setCell ⟨g, 5, none⟩ (.slice va vn vc)) k) (w' := ((w6.setCell ⟨g, 3, none⟩ (.int .i64 f'.op)).setCell ⟨g, 4, none⟩ (.int .i64 f'.lay)).setCell ⟨g, 5, none⟩ (.slice va vn vc)) (fun k hk hk2 => (hG7.block k (by omega) (fun e => by cases e; omega)).trans (hB6.block k hk2)) (fun k hk _ => ⟨by omega, (hk.2.below hB6).step hG7 (.inr tg7)⟩)
    have hB7 := (hB5.trans (hB6.mono (by omega))).grown hG7 (by omega) (fun k hk => by cases hk; omega)
    obtain ⟨d0', d1', d2', hcr⟩ := three_set (x := .int .i64 f'.op) (y := .int .i64 f'.lay) (z := .slice va vn vc) (keepc hB6 d0) (keepc hB6 d1) (keepc hB6 d2)
    have c0' := hcr 0 _ (by omega) (keepc hB6 c0H.out)
    have c1' := hcr 1 _ (by omega) (keepc hB6 c1H.out)
    have c2' := hcr 2 _ (by omega) (keepc hB6 c2H.out)
    clear hcr
    generalize ((w6.setCell ⟨g, 3, none⟩ (.int .i64 f'.op)).setCell ⟨g, 4, none⟩ (.int .i64 f'.lay)).setCell ⟨g, 5, none⟩ (.slice va vn vc) = w7 at *
    clear r0 r1 r2 rf0 rf1 rf2
    obtain ⟨r0, r1, r2, rf0, rf1, rf2⟩ := three_cells E7
    obtain ⟨t0, t1, t2, tf0, tf1, tf2⟩ := three_cells F7
    have hs1 := hid hru7
    have hs2 := hid hrv7
    have c0H := hid c0'
    have c1H := hid c1'
    have c2H := hid c2'
    have d0H := hid d0'
    have d1H := hid d1'
    have d2H := hid d2'
    clear hru7 hrv7 c0' c1' c2' d0' d1' d2' E7 F7 hG7 hru' hb6 d0 d1 d2 hgf3 hgf4 hgf5 hstH
    go_wp2_with fail
    rw [rounds_succ]
    go_wp2_with fail
    refine bodyPost_ret (v := .agg #[.int .i64 o, .int .i64 0, .slice (some ⟨g, 0, none⟩) 2 cg]) (by simp [results, Tryz.results40, go_sem, t0, t1, t2]) rfl ⟨_, rfl, ?_, ?_⟩
    · have hG8 := set_three_grown w7 (w.heap.size + 1) (.int .i64 o) (.int .i64 0) (.slice (some ⟨g, 0, none⟩) 2 cg)
      have hgt : ∀ i, some (⟨g, i, none⟩ : Addr).block ≠ some (w.heap.size + 1) := fun i e => by simp at e; omega
      exact ⟨g, 0, cg, _, _, _, _, _, _, rfl, hcg, Nat.zero_le _, ⟨by omega, tg7.step hG8 (.inl (by omega))⟩, hG8.cell c0H.out (hgt _), hG8.cell c1H.out (hgt _), hG8.cell c2H.out (hgt _), hG8.cell d0H.out (hgt _), hG8.cell d1H.out (hgt _), hG8.cell d2H.out (hgt _),
        hs2.out.keep (fun k hk hk2 => hG8.block k hk2 (fun e => by cases e; omega)) (fun k hk _ => ⟨by omega, hk.2.step hG8 (.inl (by omega))⟩), hs1.out.keep (fun k hk hk2 => hG8.block k hk2 (fun e => by cases e; omega)) (fun k hk _ => ⟨by omega, hk.2.step hG8 (.inl (by omega))⟩)⟩
    · exact hB7.grown (set_three_grown w7 (w.heap.size + 1) (.int .i64 o) (.int .i64 0) (.slice (some ⟨g, 0, none⟩) 2 cg)) (by omega) (fun k hk => by cases hk; omega)

theorem own_any (f : Fm) : OwnSaid f := by
  induction f with
  | layer n => exact own_layer n
  | not f ih => exact own_not f ih
  | bin o f g ih ihg => exact own_bin o f g ih ihg

end Go.Proofs.YtjijlkiilmbdnaaGreatDoor

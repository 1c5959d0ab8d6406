/- own: a formula in memory of its own. -/
import Derived.Test.YtjijlkiilmbdnaaGreatDoorFd
import Derived.Test.YtjijlkiilmbdnaaGreatDoorRg
import Derived.Deep.RegionHeld3
namespace Go.Proofs.YtjijlkiilmbdnaaGreatDoor
open Go Go.RowKit

theorem infoFm : (Tryz.prog.info? 28).map (fun i => (i.zero, i.size, i.bytes)) = some (some (.agg #[.int .i64 0, .int .i64 0, .slice none 0 0]), 3, 40) := by kernel_rfl

set_option maxRecDepth 100000 in
theorem clone_any (n b off c : Nat) (hn0 : 0 < n) (hn : n ≤ 2) (w : World) (news : List Value) (hl : news.length = n * 3) (hnews : ∀ j u, news[j]? = some u → w.cell? ⟨b, off + j, none⟩ = some u) (h1 : ∀ u ∈ news, u.oneCell' = true) :
    Calls Tryz.prog 60 #[.slice (some ⟨b, off, none⟩) n c] w fun e w' => ∃ g cap cur, e = .returned (.slice (some ⟨g, 0, none⟩) n cap) ∧ w.heap.size ≤ g ∧ n ≤ cap ∧ w'.heap[g]? = some (.cells cur 28 (0, 0)) ∧ cur.toList.take (n * 3) = news ∧ Below w.heap.size w w' := by
  obtain ⟨i0, hi, hz0, hz1, hz2⟩ := info_parts infoFm
  have hnil := fun (w : World) => Lib.run_eql_slice_nil (P := Tryz.prog) w 26 28 (some ⟨b, off, none⟩) n c 0 0 Tryz.underlying26
  simp only [Option.isNone_some] at hnil
  have hnw : ∀ j u, news[j]? = some u → (w.alloc (.cells #[] 28)).cell? ((⟨b, off, none⟩ : Addr).add j) = some u := fun j u hj => by
    have h := cell_past w (.cells #[] 28) b (off + j) u (hnews j u hj)
    unfold Addr.add
    split
    · subst j; exact h
    · exact h
  have hnews' := hid hnw
  clear hnw
  have h1' := hid h1
  clear hnews h1
  go_enter Tryz.func60, Tryz.ntmps60
  go_wp2_with (at_builtin; refine wpList_append_own _ rfl _ _ 26 rfl w.heap.size 28 i0 (.agg #[.int .i64 0, .int .i64 0, .slice none 0 0]) 3 40 Tryz.underlying26 hi hz0 hz1 hz2 rfl (by decide) _ _ _ rfl (World.ownsRow_made (base := w.heap.size) w #[] 0 (Nat.le_refl _) (by unfold maxLen; omega) rfl) ⟨b, off, none⟩ n c news rfl hl hnews'.out h1'.out (by unfold maxLen; omega) (by omega) (by simp) ?_; intro v' w3 hown' hgrow3 hnil3)
  have hB3 : Below w.heap.size w w3 := ((Below.refl _ w).alloc (Nat.le_refl _) _).grown hgrow3 (by simp) (fun k hk => by have hk : some w.heap.size = some k := hk; cases hk; exact Nat.le_refl _)
  obtain ⟨hxl, ⟨hv, hn⟩ | ⟨g, cap, cur, hv, hg, hh, hc1, hc2, hc3, hc4⟩⟩ := hown'
  · omega
  · subst hv
    clear hgrow3 hnil3
    go_ret
    exact ⟨g, cap, cur, by simp, hg, by omega, hh, by simpa using hc4, hB3⟩

/-- What own comes to. -/
def OwnSaid (f : Fm) : Prop := ∀ (A : Nat → Prop) (w : World) (v : Value), Rep A w f v →
  Calls Tryz.prog 40 #[v] w fun e w' => ∃ u, e = .returned u ∧ Rep (fun k => w.heap.size ≤ k ∧ TyFm w' k) w' f u ∧ Below w.heap.size w w'

theorem clone_nil (w : World) : Calls Tryz.prog 60 #[.slice none 0 0] w fun e w' => e = .returned (.slice none 0 0) ∧ w = w' := by
  have hnil := fun (w : World) => Lib.run_eql_slice_nil (P := Tryz.prog) w 26 28 none 0 0 0 0 Tryz.underlying26
  simp only [Option.isNone_none] at hnil
  go_enter Tryz.func60, Tryz.ntmps60
  go_wp2_with fail
  go_ret
  exact ⟨rfl, rfl⟩

set_option maxRecDepth 100000 in
theorem own_layer (n : Nat) : OwnSaid (.layer n) := by
  intro A w v hr
  obtain rfl := hr
  go_enter Tryz.func40, Tryz.ntmps40
  go_wp2_with (go_at_call 60; refine (clone_nil _).mono ?_; rintro e w1 ⟨rfl, rfl⟩)
  refine wp_loop_rounds 1 ?_; rw [rounds_succ]
  go_wp2_with fail
  refine bodyPost_ret (v := .agg #[.int .i64 1, .int .i64 n, .slice none 0 0]) (by simp [results, Tryz.results40, go_sem]) rfl ⟨_, rfl, rfl, by (repeat (first | exact Below.refl _ _ | assumption | exact below_step (by assumption) (by assumption) | (refine Below.drew ?_) | (refine below_drewN ?_ _) | (refine Below.alloc ?_ (by first | omega | (simp; done) | (simp; omega)) _) | (refine Below.setCell ?_ (by first | omega | (simp; done) | (simp; omega)) _) | (refine Below.trans ?_ (Below.mono (by assumption) (by first | omega | (simp; done) | (simp; omega))))))⟩

theorem row_cell {w : World} {g t n : Nat} {cur : Array Value} {news : List Value} (h : w.heap[g]? = some (.cells cur t (0, 0))) (hn : cur.toList.take n = news) (hl : news.length = n) :
    ∀ i x, news[i]? = some x → w.cell? ⟨g, i, none⟩ = some x := by
  intro i x hi
  have hlt : i < n := by rw [← hl]; exact (List.getElem?_eq_some_iff.1 hi).1
  rw [← hn, List.getElem?_take, if_pos hlt] at hi
  simp only [World.cell?, h]
  rw [← Array.getElem?_toList]
  simpa using hi

theorem block_set {w : World} {b i t : Nat} {c : Array Value} {m : Nat × Nat} (v : Value) (h : w.heap[b]? = some (.cells c t m)) : (w.setCell ⟨b, i, none⟩ v).heap[b]? = some (.cells (c.setIfInBounds i v) t m) := by
  simp only [World.setCell, Array.getElem?_modify, h]
  rfl

/-- What the region of 'f.Of[i] = own(x)' holds: the slice's field, the variable's three cells, the three cells that are written. -/
def HeldOwn (p t g o : Nat) (s x y z : Value) (W : World) : Prop :=
  W.cell? ⟨p, 2, none⟩ = some s ∧ W.cell? ⟨t, 0, none⟩ = some x ∧ W.cell? ⟨t, 1, none⟩ = some y ∧ W.cell? ⟨t, 2, none⟩ = some z ∧
    W.cell? ⟨g, o, none⟩ = some (cellOf W ⟨g, o, none⟩) ∧ W.cell? ⟨g, o + 1, none⟩ = some (cellOf W ⟨g, o + 1, none⟩) ∧ W.cell? ⟨g, o + 2, none⟩ = some (cellOf W ⟨g, o + 2, none⟩) ∧
    W.frozen? ⟨g, o, none⟩ = false ∧ W.frozen? ⟨g, o + 1, none⟩ = false ∧ W.frozen? ⟨g, o + 2, none⟩ = false

theorem HeldOwn.below {p t g o : Nat} {s x y z : Value} {W V : World} (h : HeldOwn p t g o s x y z W) (hb : Below W.heap.size W V) : HeldOwn p t g o s x y z V := by
  obtain ⟨h0, h1, h2, h3, h4, h5, h6, f4, f5, f6⟩ := h
  exact ⟨keepc hb h0, keepc hb h1, keepc hb h2, keepc hb h3, cellOf_some (keepc hb h4), cellOf_some (keepc hb h5), cellOf_some (keepc hb h6), keepf hb h4 f4, keepf hb h5 f5, keepf hb h6 f6⟩

theorem set_three_at (v : World) (b i j k : Nat) (x y z : Value) : v.grownBy (((v.setCell ⟨b, i, none⟩ x).setCell ⟨b, j, none⟩ y).setCell ⟨b, k, none⟩ z) (some b) :=
  grown_same (grown_same (set_grown v ⟨b, i, none⟩ x) (set_grown _ ⟨b, j, none⟩ y)) (set_grown _ ⟨b, k, none⟩ z)

/-- Three cells are written, the rest of the row stands. -/
theorem block_set_three {w : World} {b i j k t : Nat} {c : Array Value} {m : Nat × Nat} (x y z : Value) (h : w.heap[b]? = some (.cells c t m)) :
    (((w.setCell ⟨b, i, none⟩ x).setCell ⟨b, j, none⟩ y).setCell ⟨b, k, none⟩ z).heap[b]? = some (.cells (((c.setIfInBounds i x).setIfInBounds j y).setIfInBounds k z) t m) :=
  block_set z (block_set y (block_set x h))

theorem addr_ne {g i j : Nat} (h : i ≠ j) : (⟨g, i, none⟩ : Addr) ≠ ⟨g, j, none⟩ := fun e => h (by injection e)

theorem three_set {w : World} {g i : Nat} {x y z a b c : Value} (h0 : w.cell? ⟨g, i, none⟩ = some a) (h1 : w.cell? ⟨g, i + 1, none⟩ = some b) (h2 : w.cell? ⟨g, i + 2, none⟩ = some c) :
    let u := ((w.setCell ⟨g, i, none⟩ x).setCell ⟨g, i + 1, none⟩ y).setCell ⟨g, i + 2, none⟩ z
    u.cell? ⟨g, i, none⟩ = some x ∧ u.cell? ⟨g, i + 1, none⟩ = some y ∧ u.cell? ⟨g, i + 2, none⟩ = some z ∧ ∀ j v, (j < i ∨ i + 2 < j) → w.cell? ⟨g, j, none⟩ = some v → u.cell? ⟨g, j, none⟩ = some v := by
  refine ⟨?_, ?_, ?_, fun j v hj hv => ?_⟩
  · exact cell_set (cell_set (World.cell?_setCell_same _ _ _ h0) (addr_ne (by omega))) (addr_ne (by omega))
  · exact cell_set (World.cell?_setCell_same _ _ _ (cell_set h1 (addr_ne (by omega)))) (addr_ne (by omega))
  · exact World.cell?_setCell_same _ _ _ (cell_set (cell_set h2 (addr_ne (by omega))) (addr_ne (by omega)))
  · exact cell_set (cell_set (cell_set hv (addr_ne (by omega))) (addr_ne (by omega))) (addr_ne (by omega))

theorem HeldOwn.set {p t g o : Nat} {s x y z : Value} {W : World} (hp : p ≠ g) (ht : t ≠ g) (i j k : Nat) (a b c : Value) (h : HeldOwn p t g o s x y z W) :
    HeldOwn p t g o s x y z (((W.setCell ⟨g, i, none⟩ a).setCell ⟨g, j, none⟩ b).setCell ⟨g, k, none⟩ c) := by
  obtain ⟨h0, h1, h2, h3, h4, h5, h6, f4, f5, f6⟩ := h
  have hn : ∀ (m : Nat) (n i : Nat), n ≠ g → (⟨g, m, none⟩ : Addr) ≠ ⟨n, i, none⟩ := fun m n i hne e => hne (by injection e with e; exact e.symm)
  refine ⟨cell_set (cell_set (cell_set h0 (hn _ _ _ hp)) (hn _ _ _ hp)) (hn _ _ _ hp), cell_set (cell_set (cell_set h1 (hn _ _ _ ht)) (hn _ _ _ ht)) (hn _ _ _ ht), cell_set (cell_set (cell_set h2 (hn _ _ _ ht)) (hn _ _ _ ht)) (hn _ _ _ ht),
    cell_set (cell_set (cell_set h3 (hn _ _ _ ht)) (hn _ _ _ ht)) (hn _ _ _ ht), cellOf_set (cellOf_set (cellOf_set h4)), cellOf_set (cellOf_set (cellOf_set h5)), cellOf_set (cellOf_set (cellOf_set h6)), ?_, ?_, ?_⟩
  · simpa using f4
  · simpa using f5
  · simpa using f6

set_option maxRecDepth 100000 in
set_option maxHeartbeats 800000 in
theorem own_not (f : Fm) (ih : OwnSaid f) : OwnSaid (.not f) := by
  intro A w v hr
  obtain ⟨b, off, cap, x, y, z, rfl, h1, h2, hAb, hx, hy, hz, hf⟩ := hr
  have hlt := World.block_lt_of_cell? w _ hx
  obtain ⟨a, n, c, rfl, rfl, rfl⟩ := hf.cells
  have hf' := hid hf
  clear hf
  go_enter Tryz.func40, Tryz.ntmps40
  go_wp2_with fail
  refine (clone_any 1 b off cap (by omega) (by omega) _ [.int .i64 f.op, .int .i64 f.lay, .slice a n c] rfl ?_ ?_).mono ?_
  · intro j u hj
    match j, hj with
    | 0, hj => cases hj; exact cell_past _ _ _ _ _ (cell_past _ _ _ _ _ hx)
    | 1, hj => cases hj; exact cell_past _ _ _ _ _ (cell_past _ _ _ _ _ hy)
    | 2, hj => cases hj; exact cell_past _ _ _ _ _ (cell_past _ _ _ _ _ hz)
  · intro u hu; simp at hu; rcases hu with rfl | rfl | rfl <;> rfl
  rintro e w1 ⟨g, cg, cur, rfl, hg, hcg, hh, htk, hb1⟩
  have hs1 := hb1.size
  simp only [World.size_alloc] at hs1 hg
  have e1 : w1.heap[w.heap.size]? = some (.cells #[.int .i64 2, .int .i64 0, .slice (some ⟨b, off, none⟩) 1 cap] 28 (0, 0)) := by
    rw [hb1.block _ (by simp; omega), Below.heap_alloc _ _ _ (by simp)]; exact heap_alloc_new _ _
  have e2 : w1.heap[w.heap.size + 1]? = some (.cells #[.int .i64 0, .int .i64 0, .slice none 0 0] 28 (0, 0)) := by
    have := heap_alloc_new (w.alloc (.cells #[.int .i64 2, .int .i64 0, .slice (some ⟨b, off, none⟩) 1 cap] 28)) (.cells #[.int .i64 0, .int .i64 0, .slice none 0 0] 28)
    rw [World.size_alloc] at this
    rw [hb1.block _ (by simp)]; exact this
  have hB1 : Below w.heap.size w w1 := by (repeat (first | exact Below.refl _ _ | assumption | exact below_step (by assumption) (by assumption) | (refine Below.drew ?_) | (refine below_drewN ?_ _) | (refine Below.alloc ?_ (by first | omega | (simp; done) | (simp; omega)) _) | (refine Below.setCell ?_ (by first | omega | (simp; done) | (simp; omega)) _) | (refine Below.trans ?_ (Below.mono (by assumption) (by first | omega | (simp; done) | (simp; omega))))))
  obtain ⟨p0, p1, p2, pf0, pf1, pf2⟩ := three_cells e1
  have hrow := row_cell hh htk rfl
  have g0 := hrow 0 _ rfl
  have g1 := hrow 1 _ rfl
  have g2 := hrow 2 _ rfl
  have hgn : g ≠ w.heap.size := by omega
  have hgn2 : w.heap.size ≠ g := by omega
  have eH := hid e1
  have e2H := hid e2
  have hhH := hid hh
  clear hb1 e1 e2 hh hrow
  go_wp2_with fail
  have E1 := block_set (i := 2) (.slice (some ⟨g, 0, none⟩) 1 cg) eH.out
  have E2 : (w1.setCell ⟨w.heap.size, 2, none⟩ (.slice (some ⟨g, 0, none⟩) 1 cg)).heap[w.heap.size + 1]? = _ := (Below.heap_setCell w1 ⟨w.heap.size, 2, none⟩ _ (w.heap.size + 1) (by simp)).trans e2H.out
  have G1 : (w1.setCell ⟨w.heap.size, 2, none⟩ (.slice (some ⟨g, 0, none⟩) 1 cg)).heap[g]? = _ := (Below.heap_setCell w1 ⟨w.heap.size, 2, none⟩ _ g hgn).trans hhH.out
  have hB2 := hB1.setCell (p := ⟨w.heap.size, 2, none⟩) (Nat.le_refl _) (.slice (some ⟨g, 0, none⟩) 1 cg)
  have hz2 : w1.heap.size ≤ (w1.setCell ⟨w.heap.size, 2, none⟩ (.slice (some ⟨g, 0, none⟩) 1 cg)).heap.size := by simp
  generalize w1.setCell ⟨w.heap.size, 2, none⟩ (.slice (some ⟨g, 0, none⟩) 1 cg) = w2 at *
  clear p0 p1 p2 pf0 pf1 pf2 g0 g1 g2 hB1 eH e2H hhH
  have hg2s := lt_of_block G1
  obtain ⟨p0, p1, p2, pf0, pf1, pf2⟩ := three_cells E1
  have hrow := row_cell G1 htk rfl
  have g0 := hrow 0 _ rfl
  have g1 := hrow 1 _ rfl
  have g2 := hrow 2 _ rfl
  have hgf0 : w2.frozen? ⟨g, 0, none⟩ = false := by simp [World.frozen?, G1]
  have hgf1 : w2.frozen? ⟨g, 1, none⟩ = false := by simp [World.frozen?, G1]
  have hgf2 : w2.frozen? ⟨g, 2, none⟩ = false := by simp [World.frozen?, G1]
  have hps : w.heap.size < w2.heap.size := by omega
  have E1H := hid E1
  have E2H := hid E2
  have G1H := hid G1
  have htkH := hid htk
  have hwt : w2.heap.size ≠ g := by omega
  clear E1 E2 G1 htk hrow
  refine wp_loop_rounds 2 ?_; rw [rounds_succ]
  go_wp2_with fail
  have hst : HeldOwn w.heap.size w2.heap.size g 0 (.slice (some ⟨g, 0, none⟩) 1 cg) (.int .i64 f.op) (.int .i64 f.lay) (.slice a n c) (w2.alloc (.cells #[.int .i64 f.op, .int .i64 f.lay, .slice a n c] 28)).drew :=
    ⟨cell_past _ _ _ _ _ p2, cell_new _ _ _ _ _ _ rfl rfl, cell_new _ _ _ _ _ _ rfl rfl, cell_new _ _ _ _ _ _ rfl rfl, cellOf_some (cell_past _ _ _ _ _ g0), cellOf_some (cell_past _ _ _ _ _ g1), cellOf_some (cell_past _ _ _ _ _ g2),
      (World.frozen?_alloc_past _ _ _ hg2s).trans hgf0, (World.frozen?_alloc_past _ _ _ hg2s).trans hgf1, (World.frozen?_alloc_past _ _ _ hg2s).trans hgf2⟩
  have hstH := hid hst
  clear hst
  go_region_held3 (fun W => W.cell? ⟨w.heap.size, 2, none⟩ = some (.slice (some ⟨g, 0, none⟩) 1 cg) ∧ W.cell? ⟨w2.heap.size, 0, none⟩ = some (.int .i64 f.op) ∧ W.cell? ⟨w2.heap.size, 1, none⟩ = some (.int .i64 f.lay) ∧ W.cell? ⟨w2.heap.size, 2, none⟩ = some (.slice a n c) ∧
      W.cell? ⟨g, 0, none⟩ = some (cellOf W ⟨g, 0, none⟩) ∧ W.cell? ⟨g, 1, none⟩ = some (cellOf W ⟨g, 1, none⟩) ∧ W.cell? ⟨g, 2, none⟩ = some (cellOf W ⟨g, 2, none⟩) ∧
      W.frozen? ⟨g, 0, none⟩ = false ∧ W.frozen? ⟨g, 1, none⟩ = false ∧ W.frozen? ⟨g, 2, none⟩ = false)
    (first
      | exact hstH.out
      | exact HeldOwn.below (p := w.heap.size) (t := w2.heap.size) (g := g) (o := 0) (by assumption) (by assumption)
      | exact HeldOwn.set (p := w.heap.size) (t := w2.heap.size) (g := g) (o := 0) (by omega) (by omega) 0 1 2 _ _ _ (by assumption))
    (first
      | (go_at_call 40; refine Calls.mono (ih A _ _ ?_) ?_; (exact hf'.out.grew (B := w.heap.size) (by (repeat (first | exact Below.refl _ _ | assumption | exact below_step (by assumption) (by assumption) | (refine Below.drew ?_) | (refine below_drewN ?_ _) | (refine Below.alloc ?_ (by first | omega | (simp; done) | (simp; omega)) _) | (refine Below.setCell ?_ (by first | omega | (simp; done) | (simp; omega)) _) | (refine Below.trans ?_ (Below.mono (by assumption) (by first | omega | (simp; done) | (simp; omega))))))) (Nat.le_refl _)); rintro e w4 ⟨u, rfl, hru, hb4⟩; obtain ⟨ua, un, uc, rfl⟩ := hru.agg; have hru' := hid hru; clear hru))
  all_goals
    have hB4 : Below w2.heap.size w2 w4 := (((Below.refl _ _).alloc (Nat.le_refl _) _).drew).trans (hb4.mono (by simp))
    have hG5 := set_three_at w4 g 0 1 2 (.int .i64 f.op) (.int .i64 f.lay) (.slice ua un uc)
    have G5 := block_set_three (i := 0) (j := 1) (k := 2) (.int .i64 f.op) (.int .i64 f.lay) (.slice ua un uc) ((hB4.block _ hg2s).trans G1H.out)
    have hs4 := hB4.size
    have hs5 := hG5.size
    have E5 := (hG5.block _ (by omega) (by simp; omega)).trans ((hB4.block _ hps).trans E1H.out)
    have F5 := (hG5.block (w.heap.size + 1) (by omega) (by simp; omega)).trans ((hB4.block _ (by omega)).trans E2H.out)
    have hru5 := hru'.out.keep (B := fun k => w.heap.size + 2 ≤ k ∧ TyFm (((w4.setCell ⟨g, 0, none⟩ (.int .i64 f.op)).setCell ⟨g, 1, none⟩ (.int .i64 f.lay)).setCell ⟨g, 2, none⟩ (.slice ua un uc)) k) (fun k hk hk2 => hG5.block k hk2 (fun e => by cases e; have hk := hk.1; simp at hk; omega)) (fun k hk _ => ⟨by have hk := hk.1; simp at hk; omega, hk.2.step hG5 (.inr (TyFm.of G5))⟩)
    have tg := TyFm.of G5
    have hB5 := (hB2.trans (hB4.mono (by omega))).grown hG5 (by omega) (fun k hk => by cases hk; omega)
    obtain ⟨c0, c1, c2, _⟩ := three_set (x := .int .i64 f.op) (y := .int .i64 f.lay) (z := .slice ua un uc) (keepc hB4 g0) (keepc hB4 g1) (keepc hB4 g2)
    generalize ((w4.setCell ⟨g, 0, none⟩ (.int .i64 f.op)).setCell ⟨g, 1, none⟩ (.int .i64 f.lay)).setCell ⟨g, 2, none⟩ (.slice ua un uc) = w5 at *
    obtain ⟨r0, r1, r2, rf0, rf1, rf2⟩ := three_cells E5
    obtain ⟨t0, t1, t2, tf0, tf1, tf2⟩ := three_cells F5
    have hrH := hid hru5
    have c0H := hid c0
    have c1H := hid c1
    have c2H := hid c2
    clear hru5 c0 c1 c2 E5 F5 G5 hG5 hru' hb4 p0 p1 p2 g0 g1 g2 pf0 pf1 pf2 hgf0 hgf1 hgf2
    go_wp2_with fail
    rw [rounds_succ]
    go_wp2_with fail
    refine bodyPost_ret (v := .agg #[.int .i64 2, .int .i64 0, .slice (some ⟨g, 0, none⟩) 1 cg]) (by simp [results, Tryz.results40, go_sem, t0, t1, t2]) rfl ⟨_, rfl, ?_, ?_⟩
    · have hG6 := set_three_grown w5 (w.heap.size + 1) (.int .i64 2) (.int .i64 0) (.slice (some ⟨g, 0, none⟩) 1 cg)
      have hgt : ∀ i, some (⟨g, i, none⟩ : Addr).block ≠ some (w.heap.size + 1) := fun i e => by simp at e; omega
      exact ⟨g, 0, cg, _, _, _, rfl, hcg, Nat.zero_le _, ⟨by omega, tg.step hG6 (.inl (by omega))⟩, hG6.cell c0H.out (hgt _), hG6.cell c1H.out (hgt _), hG6.cell c2H.out (hgt _), hrH.out.keep (fun k hk hk2 => hG6.block k hk2 (fun e => by cases e; omega)) (fun k hk _ => ⟨by omega, hk.2.step hG6 (.inl (by omega))⟩)⟩
    · exact hB5.grown (set_three_grown w5 (w.heap.size + 1) (.int .i64 2) (.int .i64 0) (.slice (some ⟨g, 0, none⟩) 1 cg)) (by omega) (fun k hk => by cases hk; omega)

end Go.Proofs.YtjijlkiilmbdnaaGreatDoor

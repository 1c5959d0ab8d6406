/- Layers: the layers that stand in a formula. -/
import Derived.Test.YtjijlkiilmbdnaaGreatDoorWl
import Derived.Test.YtjijlkiilmbdnaaGreatDoorNc
import Derived.RangeFuncBox
import Derived.OwnWalkIn
import Derived.TacticsInMore
namespace Go.Proofs.YtjijlkiilmbdnaaGreatDoor
open Go Go.RowKit

/-- The layers of a list of parts. -/
def laysOf (l : List Fm) : List Int := (l.filter fun x => x.op == 1).map fun x => (x.lay : Int)

theorem laysOf_snoc (l : List Fm) (x : Fm) : laysOf (l ++ [x]) = laysOf l ++ (if x.op == 1 then [(x.lay : Int)] else []) := by
  simp only [laysOf, List.filter_append, List.map_append]
  congr 1
  by_cases h : x.op == 1 <;> simp [h]

theorem all_length (f : Fm) : f.all.length = f.parts := by
  induction f with
  | layer n => rfl
  | not f ih => simp [Fm.all, Fm.parts, ih]
  | bin o f g ih ihg => simp [Fm.all, Fm.parts, ih, ihg]

theorem laysOf_le (l : List Fm) : (laysOf l).length ≤ l.length := by simp only [laysOf, List.length_map]; exact List.length_filter_le _ _

theorem infoInt : (Tryz.prog.info? 3).map (fun i => (i.zero, i.size, i.bytes)) = some (some (.int .i64 0), 1, 8) := by kernel_rfl

theorem laysOf_append (l m : List Fm) : laysOf (l ++ m) = laysOf l ++ laysOf m := by simp [laysOf]

theorem laysOf_cons (x : Fm) (l : List Fm) : laysOf (x :: l) = (if x.op == 1 then [(x.lay : Int)] else []) ++ laysOf l := laysOf_append [x] l |>.trans (by
  congr 1
  by_cases h : x.op == 1 <;> simp [laysOf, h])

theorem laysOf_pos (f : Fm) (h : f.ok) : 0 < (laysOf f.all).length := by
  induction f with
  | layer n => simp [Fm.all, laysOf, Fm.op]
  | not f ih => have := ih h; rw [Fm.all, laysOf_cons, List.length_append]; omega
  | bin o f g ih ihg => have := ih h.2.2.1; rw [Fm.all, laysOf_cons, laysOf_append, List.length_append, List.length_append]; omega

/-- What the loop collects. -/
def Coll (w : World) (O L : Nat) (pre : List Fm) (V : World) : Prop :=
  ∃ v, Boxed V O 40 v ∧ V.ownsRow (L + 1) 3 1 v (laysOf pre).length ((laysOf pre).map (Value.int .i64)) ∧ Below w.heap.size w V

theorem row_not_low {w : World} {B e size n k : Nat} {v : Value} {xs : List Value} (h : w.ownsRow B e size v n xs) (hk : k < B) : some k ≠ v.ownBlock := fun e' => by
  have := own_ge h k e'.symm; omega

theorem Coll.step {w V V' : World} {O L : Nat} {pre : List Fm} (hO : O < L) (hL : w.heap.size ≤ L) (h : Coll w O L pre V) (hg : V.grownBy V' (some L)) : Coll w O L pre V' := by
  obtain ⟨v, hb, hr, hB⟩ := h
  exact ⟨v, hb.kept hg (by simp; omega), hr.kept hg (.inr (row_not_low hr (by omega)).symm), hB.grown hg (hB.size) (fun k hk => by cases hk; exact hL)⟩

theorem KeepO.row {q : Obj → Prop} {w w' : World} {B e size n : Nat} {v : Value} {xs : List Value} (hr : w.ownsRow B e size v n xs) (hg : w.grownBy w' v.ownBlock) (hq : ∀ cur, ¬ q (.cells cur e (0, 0))) : KeepO q w w' := by
  obtain ⟨_, ⟨rfl, _⟩ | ⟨g, cap, cur, rfl, _, hh, _⟩⟩ := hr
  · exact ⟨hg.os, hg.tape, hg.output, hg.size, fun k o ho _ => (hg.block k (lt_of_block ho) (by simp [Value.ownBlock])).trans ho⟩
  · exact KeepO.grown hg hh (hq cur)

def Stays (o : Obj) : Prop := IsFm o ∨ o.isCells = false

theorem not_stays {cur : Array Value} {e : Nat} (h : e ≠ 28) : ¬ Stays (.cells cur e (0, 0)) := by
  rintro (⟨c, m, h1⟩ | h1)
  · cases h1; exact h rfl
  · cases h1

/-- What the loop's append owes. -/
theorem Coll.add {w V V1 : World} {O L : Nat} {pre : List Fm} {x : Fm} {v v' : Value} {y : Value} (hx : x.op = 1) (hb : Boxed V O 40 v) (hr : V.ownsRow (L + 1) 3 1 v (laysOf pre).length ((laysOf pre).map (Value.int .i64)))
    (hB : Below w.heap.size w V) (hw : w.heap.size ≤ O) (hO : O < L) (hown : V1.ownsRow (L + 1) 3 1 v' ((laysOf pre).length + 1) ((laysOf pre).map (Value.int .i64) ++ [.int .i64 x.lay])) (hg : (V.alloc (.cells #[y] 3)).grownBy V1 v.ownBlock) :
    Boxed V1 O 40 v ∧ Coll w O L (pre ++ [x]) (V1.setCell ⟨O, 0, none⟩ v') ∧ KeepO Stays V (V1.setCell ⟨O, 0, none⟩ v') := by
  have h1 : Boxed V1 O 40 v := (hb.alloc _).kept hg (row_not_low hr (by omega))
  refine ⟨h1, ⟨v', h1.set v', ?_, ?_⟩, ((KeepO.below ((Below.refl _ _).alloc (Nat.le_refl _) _)).trans (KeepO.row (hr.alloc _) hg (fun cur => not_stays (by decide)))).trans (KeepO.grown (grownBy_setCell' V1 O v') h1 (not_stays (by decide)))⟩
  · rw [laysOf_snoc]
    simpa [hx] using hown.kept (grownBy_setCell' V1 O v') (.inr (row_not_low hown (by omega)).symm)
  · exact ((hB.alloc hB.size _).grown hg (by have := hB.size; simp; omega) (fun k hk => by have := own_ge hr k hk; omega)).setCell (p := ⟨O, 0, none⟩) hw v'

attribute [local go_sem] Oper.semAt_some

set_option maxRecDepth 100000 in
set_option maxHeartbeats 1000000 in
theorem Layers_any (f : Fm) (hok : f.ok) (hd : f.depth ≤ 32) (hp : f.parts ≤ 512) (A : Nat → Prop) (w : World) (v : Value) (hr : Rep A w f v) :
    Calls Tryz.prog 9 #[v] w fun e w' => ∃ u, e = .returned (.tuple #[u, .int .i64 0]) ∧ w'.ownsRow w.heap.size 3 1 u (onceOf (laysOf f.all)).length ((onceOf (laysOf f.all)).map (Value.int .i64)) ∧ Below w.heap.size w w' := by
  obtain ⟨i0, hi, hz0, hz1, hz2⟩ := info_parts infoInt
  obtain ⟨a, n, c, rfl⟩ := hr.agg
  have hr' := hid hr
  clear hr
  refine (callsIn_wide (n := 0)).1 (callsIn_of_wp_marks Tryz.func9 rfl trivial ?_ rfl)
  refine wpIn_wide.2 ?_
  simp only [Tryz.ntmps9, List.size_toArray, List.length_cons, List.length_nil, Nat.reduceAdd, Nat.reduceSub, Array.replicate_succ, Array.replicate_zero, List.push_toArray, List.append_toArray, List.nil_append, List.cons_append]
  go_wp2_with fail
  refine (check_ok f hok hd hp A _ _ (hr'.out.grew (B := w.heap.size) (by (repeat (first | exact Below.refl _ _ | assumption | exact below_step (by assumption) (by assumption) | (refine Below.drew ?_) | (refine below_drewN ?_ _) | (refine Below.alloc ?_ (by first | omega | (simp; done) | (simp; omega)) _) | (refine Below.setCell ?_ (by first | omega | (simp; done) | (simp; omega)) _) | (refine Below.trans ?_ (Below.mono (by assumption) (by first | omega | (simp; done) | (simp; omega))))))) (Nat.le_refl _))).mono ?_
  rintro e w1 ⟨rfl, hb1⟩
  have hB1 : Below w.heap.size w w1 := by (repeat (first | exact Below.refl _ _ | assumption | exact below_step (by assumption) (by assumption) | (refine Below.drew ?_) | (refine below_drewN ?_ _) | (refine Below.alloc ?_ (by first | omega | (simp; done) | (simp; omega)) _) | (refine Below.setCell ?_ (by first | omega | (simp; done) | (simp; omega)) _) | (refine Below.trans ?_ (Below.mono (by assumption) (by first | omega | (simp; done) | (simp; omega))))))
  have E1 : w1.heap[w.heap.size]? = _ := (hb1.block _ (by simp)).trans (heap_alloc_new w _)
  obtain ⟨p0, p1, p2, pf0, pf1, pf2⟩ := three_cells E1
  have hs1 := lt_of_block E1
  clear hb1 E1
  go_wp2_with fail
  refine (Walk_any f hok hd hp A _ _ (hr'.out.grew (B := w.heap.size) (by (repeat (first | exact Below.refl _ _ | assumption | exact below_step (by assumption) (by assumption) | (refine Below.drew ?_) | (refine below_drewN ?_ _) | (refine Below.alloc ?_ (by first | omega | (simp; done) | (simp; omega)) _) | (refine Below.setCell ?_ (by first | omega | (simp; done) | (simp; omega)) _) | (refine Below.trans ?_ (Below.mono (by assumption) (by first | omega | (simp; done) | (simp; omega))))))) (Nat.le_refl _))).mono ?_
  rintro e w2 ⟨rfl, ⟨ua, un, uc, hbox, hru⟩, hb2⟩
  have hB2 : Below w.heap.size w w2 := by (repeat (first | exact Below.refl _ _ | assumption | exact below_step (by assumption) (by assumption) | (refine Below.drew ?_) | (refine below_drewN ?_ _) | (refine Below.alloc ?_ (by first | omega | (simp; done) | (simp; omega)) _) | (refine Below.setCell ?_ (by first | omega | (simp; done) | (simp; omega)) _) | (refine Below.trans ?_ (Below.mono (by assumption) (by first | omega | (simp; done) | (simp; omega))))))
  simp only [World.size_alloc] at hbox hru hb2
  have hX2 : Boxed w2 w1.heap.size 40 (.slice none 0 0) := (hb2.block _ (by omega)).trans (Boxed.new _ _ _)
  have hs2 := lt_of_block hbox
  have hboxH := hid hbox
  have hruH := hid hru
  clear hb2 hbox hru p0 p1 p2 pf0 pf1 pf2
  go_wp2_with fail
  refine range_all rfl (fun args w => by rfl) f.all (fun x args V => ∃ u, args = #[u] ∧ Rep (fun k => w1.heap.size + 2 ≤ k ∧ TyFm w2 k) V x u) (fun x args V h => by obtain ⟨u, rfl, _⟩ := h; rfl)
    (Coll w w1.heap.size (w2.heap.size + 1)) IsFm (fun o h => by obtain ⟨c, m, rfl⟩ := h; rfl) (fun pre V V' h hg => h.step (by omega) (by omega) hg) ?h0 ?hseq ?hround ?hdone
  case h0 =>
    exact ⟨_, (hX2.alloc _).alloc _, World.ownsRow_nil _ _ _ _, (hB2.alloc (by omega) _).alloc (by simp; omega) _⟩
  case hseq =>
    intro J W hbW hsW hJ hY h0
    exact Walk2_any f _ (fun k => w1.heap.size + 2 ≤ k ∧ TyFm w2 k) f.all J W _ ua un uc rfl (fun k hk => hk.2.below hbW) ((hbW.block _ (by omega)).trans hboxH.out) (hruH.out.keep (fun k hk hk2 => hbW.block k hk2) (fun k hk _ => hk)) hJ
      (fun pre x post u V hT hu hj => hY pre x post #[u] V hT ⟨u, rfl, hu⟩ hj) h0
  case hround =>
    rintro pre x post args V hT ⟨u, rfl, hu⟩ ⟨v, hb, hr, hB⟩ hsz
    obtain ⟨xa, xn, xc, rfl⟩ := hu.agg
    have hsV := hb.lt
    have hn1 : (laysOf pre).length ≤ 512 := by
      have h1 := laysOf_le pre
      have h2 := congrArg List.length hT
      rw [all_length, List.length_append] at h2
      omega
    gi_wp2
    refine ⟨by (repeat (first | exact Below.refl _ _ | assumption | exact below_step (by assumption) (by assumption) | (refine Below.drew ?_) | (refine below_drewN ?_ _) | (refine Below.alloc ?_ (by first | omega | (simp; done) | (simp; omega)) _) | (refine Below.setCell ?_ (by first | omega | (simp; done) | (simp; omega)) _) | (refine Below.trans ?_ (Below.mono (by assumption) (by first | omega | (simp; done) | (simp; omega)))))), fun V2 hg2 hs2' => ?_⟩
    have hb2 : Boxed V2 w1.heap.size 40 v := (hb.alloc _).kept hg2 (by simp; omega)
    have hr2 := (hr.alloc (.cells #[.int .i64 x.op, .int .i64 x.lay, .slice xa xn xc] 28)).kept hg2 (.inr (row_not_low hr (by omega)).symm)
    have hB2' : Below w.heap.size w V2 := (hB.alloc hB.size _).grown hg2 (by simp; omega) (fun k hk => by cases hk; omega)
    have hX2' : V2.heap[V.heap.size]? = some (.cells #[.int .i64 x.op, .int .i64 x.lay, .slice xa xn xc] 28 (0, 0)) := (hg2.block _ (by simp) (by simp; omega)).trans (heap_alloc_new _ _)
    obtain ⟨p0, p1, p2, pf0, pf1, pf2⟩ := three_cells hX2'
    simp only [World.size_alloc] at hs2'
    have hs3 : V.heap.size < V2.heap.size := by omega
    clear hs2'
    have hbc := hb2.cell
    have hbf := hb2.frozen
    have hb2l := hb2.lt
    have hb2H := hid hb2
    clear hX2' hb2 hb hg2 hu
    by_cases h1 : x.op = 1
    · have e1 : ((x.op : Int) == 1) = true := by simp [h1]
      have hsz2 := hB2'.size
      gi_wp2_with (gi_at_builtin; refine wpListIn_append_own _ rfl _ _ 40 rfl (w2.heap.size + 2) 3 i0 (.int .i64 0) 1 8 Tryz.underlying40 hi hz0 hz1 hz2 rfl (by decide) _ _ _ rfl (hr2.alloc _) ⟨V2.heap.size, 0, none⟩ 1 1 [.int .i64 x.lay] rfl rfl (cell_one_new _ _ _) (fun x hx => by simp at hx; subst hx; rfl) (by unfold maxLen; omega) (by omega) (by simp; omega) ?_; intro v' w3 hown' hgrow3 hnil3; obtain ⟨hv3, hcoll, hkeep⟩ := Coll.add (L := w2.heap.size + 1) h1 hb2H.out hr2 hB2' (by omega) (by omega) hown' hgrow3; obtain ⟨g, cap, hvv⟩ := ownsRow_succ hown'; have hc3 := hv3.cell; have hf3 := hv3.frozen; have hl3 := hv3.lt; clear hbc hbf; subst hvv; go_frame)
      clear hown' hgrow3 hnil3
      gi_wp2
      exact hkeep
    · have e1 : ((x.op : Int) == 1) = false := by simp; omega
      gi_wp2
      exact ⟨⟨v, hb2H.out, by rw [laysOf_snoc]; simpa [h1] using hr2, hB2'⟩, KeepO.refl _ _⟩
  case hdone =>
    rintro V ⟨v, hb, hr, hB⟩ hD
    have hbc := hb.cell
    have hpos := laysOf_pos f hok
    have hlen : (laysOf f.all).length ≤ 512 := by have := laysOf_le f.all; rw [all_length] at this; omega
    rcases hr.2 with ⟨_, h0⟩ | ⟨g, cap, cur, rfl, hg, hgb, hr1, hr2, hr3, hr4⟩
    · omega
    have hbH := hid hb
    have hDH := hid hD
    clear hD hb
    go_wp2_with (go_at_call 33; refine (once_any (laysOf f.all) g cap cur V (by omega) hr1 hr2 (by omega) hgb (by simpa using hr4)).mono ?_; rintro e V1 ⟨rfl, hg1, hown1⟩)
    have hK : V1.heap[w2.heap.size]? = some (.deferred (some [])) := (hg1.block _ (lt_of_block hDH.out) (by simp; omega)).trans hDH.out
    refine ⟨by simp, .inl ⟨_, _, rfl, run_takeDeferred hK, ?_⟩⟩
    refine ⟨_, results_tmp2 rfl _ _ _, _, rfl, ?_, ?_⟩
    · obtain ⟨h1, h2⟩ := hown1
      refine ⟨h1, ?_⟩
      rcases h2 with ⟨h3, _⟩ | ⟨g', cap', cur', h3, h4, h5, h6⟩
      · cases h3
      · cases h3
        exact .inr ⟨g, cap, cur', rfl, by have := hB2.size; omega, (World.putObj_heap_other (by omega)).trans h5, h6⟩
    · exact ((hB.grown hg1 hB.size (fun k hk => by cases hk; have := hB2.size; omega))).grown (grown_put _ _ _) (by have := hB.size; have := hg1.size; omega) (fun k hk => by cases hk; have := hB2.size; omega)

end Go.Proofs.YtjijlkiilmbdnaaGreatDoor
